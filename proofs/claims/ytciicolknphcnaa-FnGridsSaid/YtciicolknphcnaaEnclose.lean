/- EncloseAll: it returns an interval (which one is not asked here). -/
import Derived.Test.YtciicolknphcnaaGridS
namespace Go.Proofs.Ytciicolknphcnaa
open Go.RowKit
set_option maxRecDepth 100000
set_option linter.unusedVariables false
set_option linter.unusedSimpArgs false
set_option linter.unusedVariables false

theorem l02All_any (a : Option Addr) (n c : Nat) (ds : List (Int × Int)) (w : World) (h : Row w 2 a n (prs ds)) (hn : n ≤ 1048576) :
    Calls Try.prog 73 #[.slice a n c] w fun e w' => ∃ r, e = .returned (.bool r) ∧ Below w.heap.size w w' := by
  go_enter Try.func73, Try.ntmps73
  go_wp2
  go_loopw [3] (fun i wr => ∃ k : Nat, k ≤ n ∧ i = .int .i64 k ∧ Below w.heap.size w wr) (fun i _ => n - (intOf i).toNat)
  case atStart => exact ⟨0, Nat.zero_le _, rfl, Below.refl _ _⟩
  case round =>
    obtain ⟨k, hk, rfl, hbel⟩ := hrel
    by_cases hlt : k < n
    · obtain ⟨b, off, x, y, rfl, hc0, hc1, hx⟩ := (h.below2 hbel (Nat.le_refl _)).at2 hlt
      cases hin : ivOk (x, y)
      · go_wp2_with (go_at_call 56; refine (isIntervalS_any _ _ _).mono ?_; rintro e w' ⟨rfl, hb⟩)
        go_ret
        exact ⟨_, rfl, hbel.trans (hb.mono hbel.size)⟩
      · go_wp2_with (go_at_call 56; refine (isIntervalS_any _ _ _).mono ?_; rintro e w' ⟨rfl, hb⟩)
        go_roundw
        case rel => exact ⟨k + 1, by omega, by go_num, hbel.trans (hb.mono hbel.size)⟩
        case measure => simp [intOf]; omega
    · go_wp2
      go_ret
      exact ⟨_, rfl, hbel⟩

theorem Blk.two {w : World} {b t : Nat} {v0 v1 : Value} (h : Blk w b t #[v0, v1]) (u0 u1 : Value) : Blk ((w.setCell ⟨b, 0, none⟩ u0).setCell ⟨b, 1, none⟩ u1) b t #[u0, u1] := by
  have := (h.set_ 0 u0).set_ 1 u1
  simpa using this

set_option maxHeartbeats 3200000 in
theorem encloseAll_any (a : Option Addr) (n c : Nat) (ds : List (Int × Int)) (w : World) (h : Row w 2 a n (prs ds)) (hn : n ≤ 200) :
    Calls Try.prog 71 #[.slice a n c] w fun e w' => ∃ l g v : Int, e = .returned (.tuple #[.agg #[.int .i64 l, .int .i64 g], .int .i64 v]) ∧ Below w.heap.size w w' := by
  have h1 := h.alloc2 (.cells #[.int .i64 0, .int .i64 0] 49)
  have K := Lib.hid (Blk.new w 49 #[.int .i64 0, .int .i64 0])
  have B := Lib.hid ((Below.refl w.heap.size w).alloc (Nat.le_refl _) (.cells #[.int .i64 0, .int .i64 0] 49))
  go_enter Try.func71, Try.ntmps71
  go_wp2_with fail
  go_at_call 73
  refine (l02All_any _ _ _ _ _ h1 (by omega)).mono ?_
  rintro e w2 ⟨r, rfl, hb⟩
  have K2 := K.out.belowSelf hb
  have B2 := B.out.trans (hb.mono B.out.size)
  have z0 : w2.cell? ⟨w.heap.size, 0, none⟩ = some (.int .i64 0) := K2.cell 0; have fz0 := K2.frozen 0
  have z1 : w2.cell? ⟨w.heap.size, 1, none⟩ = some (.int .i64 0) := K2.cell 1; have fz1 := K2.frozen 1
  have hlt := K2.lt
  clear hb
  cases r
  · go_wp2
    obtain ⟨w6, hw6⟩ : ∃ w6, (w2.setCell ⟨w.heap.size, 0, none⟩ (.int .i64 0)).setCell ⟨w.heap.size, 1, none⟩ (.int .i64 0) = w6 := ⟨_, rfl⟩
    have K6 : Blk w6 w.heap.size 49 #[.int .i64 0, .int .i64 0] := hw6 ▸ K2.two _ _
    have B6 : Below w.heap.size w w6 := hw6 ▸ (B2.setCell (by simp) _).setCell (by simp) _
    rw [hw6]
    clear z0 z1 fz0 fz1
    have z0 : w6.cell? ⟨w.heap.size, 0, none⟩ = some (.int .i64 0) := K6.cell 0
    have z1 : w6.cell? ⟨w.heap.size, 1, none⟩ = some (.int .i64 0) := K6.cell 1
    exact bodyPost_ret (v := .tuple #[.agg #[.int .i64 0, .int .i64 0], .int .i64 1]) (by simp [results, go_sem, z0, z1]) rfl ⟨_, _, _, rfl, B6⟩
  by_cases hn0 : n = 0
  · subst hn0
    go_wp2
    obtain ⟨w6, hw6⟩ : ∃ w6, (w2.setCell ⟨w.heap.size, 0, none⟩ (.int .i64 0)).setCell ⟨w.heap.size, 1, none⟩ (.int .i64 0) = w6 := ⟨_, rfl⟩
    have K6 : Blk w6 w.heap.size 49 #[.int .i64 0, .int .i64 0] := hw6 ▸ K2.two _ _
    have B6 : Below w.heap.size w w6 := hw6 ▸ (B2.setCell (by simp) _).setCell (by simp) _
    rw [hw6]
    clear z0 z1 fz0 fz1
    have z0 : w6.cell? ⟨w.heap.size, 0, none⟩ = some (.int .i64 0) := K6.cell 0
    have z1 : w6.cell? ⟨w.heap.size, 1, none⟩ = some (.int .i64 0) := K6.cell 1
    exact bodyPost_ret (v := .tuple #[.agg #[.int .i64 0, .int .i64 0], .int .i64 4]) (by simp [results, go_sem, z0, z1]) rfl ⟨_, _, _, rfl, B6⟩
  have hnI : ((n : Int) == 0) = false := by simp; omega
  obtain ⟨b, off, x, y, rfl, hc0, hc1, hx⟩ := (h.below2 B2 (Nat.le_refl _)).at2 (show 0 < n by omega)
  obtain ⟨R, hR⟩ : ∃ R, w2.heap.size = R := ⟨_, rfl⟩
  simp only [Nat.zero_mul, Nat.add_zero] at hc0 hc1
  have h2 := h.below2 B2 (Nat.le_refl _)
  have hlR : w.heap.size < R := hR ▸ hlt
  go_wp2_with fail
  go_loopw [5] (fun i wr => ∃ (k : Nat) (u v : Int), 1 ≤ k ∧ k ≤ n ∧ i = .int .i64 k ∧ Blk wr R 49 #[.int .i64 u, .int .i64 v] ∧ Blk wr w.heap.size 49 #[.int .i64 0, .int .i64 0] ∧ Below R w2 wr) (fun i _ => n - (intOf i).toNat)
  case atStart => exact ⟨1, x, y, Nat.le_refl _, by omega, rfl, hR ▸ Blk.new _ _ _, K2.alloc _, hR ▸ (Below.refl _ _).alloc (Nat.le_refl _) _⟩
  case round =>
    obtain ⟨k, u, v, hk1, hk, rfl, HR, HZ, HB⟩ := hrel
    by_cases hlt2 : k < n
    · obtain ⟨b', off', x', y', e0, hd0, hd1, hx'⟩ := (h2.below2 HB (by omega)).at2 hlt2
      injection e0 with e0; injection e0 with e0 e1 _; subst e0; subst e1
      have hbR : b < R := by have := World.block_lt_of_cell? _ _ hc0; simp at this; omega
      have L := Lib.hid (h2.below2 HB (by omega))
      have HR1 := Lib.hid HR
      have HZ1 := Lib.hid HZ
      have HB1 := Lib.hid HB
      have HX := Lib.hid hx'.out
      have k0 : wr.cell? ⟨R, 0, none⟩ = some (.int .i64 u) := HR.cell 0
      have k1 : wr.cell? ⟨R, 1, none⟩ = some (.int .i64 v) := HR.cell 1
      have fk0 := HR.frozen 0; have fk1 := HR.frozen 1
      clear HR HZ HB hx' hc0 hc1 z0 z1 fz0 fz1
      go_wp2_with fail
      refine wp_region_held_drew (S := fun w' => w'.cell? ⟨b, off + k * 2, none⟩ = some (.int .i64 x') ∧ w'.cell? ⟨b, off + k * 2 + 1, none⟩ = some (.int .i64 y')) (by kernel_rfl) (⟨by first | exact hd0 | (simp [World.cell?_setCell_far, Nat.ne_of_gt hbR, hd0]; done), by first | exact hd1 | (simp [World.cell?_setCell_far, Nat.ne_of_gt hbR, hd1]; done)⟩) (fun hHeld => ?_)
      refine wpAnyH_take (i := 1) (oi := ?oix1) (v := ?vx1) ?hix1 (by kernel_rfl) (by kernel_rfl) (by kernel_rfl) ?hQx1 ?hyx1 (by assumption) ?hrx1
      case hix1 => (simp only [List.getElem?_toArray, List.getElem?_cons_succ, List.getElem?_cons_zero]; rfl)
      case hQx1 => exact fun _ _ _ h => h
      case hyx1 => (refine Or.inl ⟨by rfl, ?_⟩; intro w hSw; (try dsimp only at hSw); (go_simp <;> with_reducible rfl))
      (try simp only [Act.put, List.setIfInBounds_toArray, List.set_cons_zero, List.set_cons_succ])
      refine wpAnyH_take (i := 2) (oi := ?oix2) (v := ?vx2) ?hix2 (by kernel_rfl) (by kernel_rfl) (by kernel_rfl) ?hQx2 ?hyx2 (by assumption) ?hrx2
      case hix2 => (simp only [List.getElem?_toArray, List.getElem?_cons_succ, List.getElem?_cons_zero]; rfl)
      case hQx2 => exact fun _ _ _ h => h
      case hyx2 => (refine Or.inl ⟨by rfl, ?_⟩; intro w hSw; (try dsimp only at hSw); (go_simp <;> with_reducible rfl))
      (try simp only [Act.put, List.setIfInBounds_toArray, List.set_cons_zero, List.set_cons_succ])
      refine wpAnyH_take (i := 3) (oi := ?oix3) (v := ?vx3) ?hix3 (by kernel_rfl) (by kernel_rfl) (by kernel_rfl) ?hQx3 ?hyx3 (by assumption) ?hrx3
      case hix3 => (simp only [List.getElem?_toArray, List.getElem?_cons_succ, List.getElem?_cons_zero]; rfl)
      case hQx3 => exact fun _ _ _ h => h
      case hyx3 => (refine Or.inl ⟨by rfl, ?_⟩; intro w hSw; (try dsimp only at hSw); (go_simp <;> with_reducible rfl))
      (try simp only [Act.put, List.setIfInBounds_toArray, List.set_cons_zero, List.set_cons_succ])
      refine wpAnyH_take (i := 4) (oi := ?oix4) (v := ?vx4) ?hix4 (by kernel_rfl) (by kernel_rfl) (by kernel_rfl) ?hQx4 ?hyx4 (by assumption) ?hrx4
      case hix4 => (simp only [List.getElem?_toArray, List.getElem?_cons_succ, List.getElem?_cons_zero]; rfl)
      case hQx4 => exact fun _ _ _ h => h
      case hyx4 => (refine Or.inl ⟨by rfl, ?_⟩; intro w hSw; (try dsimp only at hSw); (go_simp <;> with_reducible rfl))
      (try simp only [Act.put, List.setIfInBounds_toArray, List.set_cons_zero, List.set_cons_succ])
      refine wpAnyH_ready (rs := [0]) (by kernel_rfl) (by simp) ?_
      refine AllReadyH.cons (o := ?oix0) ?hix0 ?hax0 AllReadyH.nil
      case hix0 => (simp only [List.getElem?_toArray, List.getElem?_cons_succ, List.getElem?_cons_zero]; rfl)
      intro K hK
      go_simp
      skip
      refine hK.out _ _ (⟨by first | exact hd0 | (simp [World.cell?_setCell_far, Nat.ne_of_gt hbR, hd0]; done), by first | exact hd1 | (simp [World.cell?_setCell_far, Nat.ne_of_gt hbR, hd1]; done)⟩) (fun hHeld => ?_)
      clear hK K
      (try simp only [Act.put, List.setIfInBounds_toArray, List.set_cons_zero, List.set_cons_succ])
      refine wpAnyH_ready (rs := [5]) (by kernel_rfl) (by simp) ?_
      refine AllReadyH.cons (o := ?oix5) ?hix5 ?hax5 AllReadyH.nil
      case hix5 => (simp only [List.getElem?_toArray, List.getElem?_cons_succ, List.getElem?_cons_zero]; rfl)
      intro K hK
      go_simp
      go_at_call 59
      refine (l02Hull_any _ _ _ _ _).mono ?_
      rintro e w7 ⟨rfl, hb⟩
      replace HR1 := Lib.hid (HR1.out.drew.belowSelf hb)
      replace HZ1 := Lib.hid (HZ1.out.drew.belowSelf hb)
      replace HB1 := Lib.hid (HB1.out.drew.trans (hb.mono (by have := HB1.out.drew.size; omega)))
      replace L := Lib.hid (L.out.drew.below2 hb (Nat.le_refl _))
      clear k0 k1 fk0 fk1 hd0 hd1
      obtain ⟨hd0, hd1⟩ := L.out.get2_ HX.out
      have k0 : w7.cell? ⟨R, 0, none⟩ = some (.int .i64 u) := HR1.out.cell 0
      have k1 : w7.cell? ⟨R, 1, none⟩ = some (.int .i64 v) := HR1.out.cell 1
      have fk0 := HR1.out.frozen 0; have fk1 := HR1.out.frozen 1
      clear hb
      refine hK.out _ _ (⟨by first | exact hd0 | (simp [World.cell?_setCell_far, Nat.ne_of_gt hbR, hd0]; done), by first | exact hd1 | (simp [World.cell?_setCell_far, Nat.ne_of_gt hbR, hd1]; done)⟩) (fun hHeld => ?_)
      clear hK K
      (try simp only [Act.put, List.setIfInBounds_toArray, List.set_cons_zero, List.set_cons_succ])
      refine wpAnyH_ready (rs := [6]) (by kernel_rfl) (by simp) ?_
      refine AllReadyH.cons (o := ?oix6) ?hix6 ?hax6 AllReadyH.nil
      case hix6 => (simp only [List.getElem?_toArray, List.getElem?_cons_succ, List.getElem?_cons_zero]; rfl)
      intro K hK
      go_simp
      skip
      refine hK.out _ _ (⟨by first | exact hd0 | (simp [World.cell?_setCell_far, Nat.ne_of_gt hbR, hd0]; done), by first | exact hd1 | (simp [World.cell?_setCell_far, Nat.ne_of_gt hbR, hd1]; done)⟩) (fun hHeld => ?_)
      clear hK K
      (try simp only [Act.put, List.setIfInBounds_toArray, List.set_cons_zero, List.set_cons_succ])
      refine wpAnyH_done (by kernel_rfl) ?_ _
      have HR2 := Lib.hid (HR1.out.two (.int .i64 (min u x')) (.int .i64 (max v y')))
      have HZ2 := Lib.hid ((HZ1.out.far (p := ⟨R, 0, none⟩) (by simp; omega) (.int .i64 (min u x'))).far (p := ⟨R, 1, none⟩) (by simp; omega) (.int .i64 (max v y')))
      have HB2 := Lib.hid ((HB1.out.setCell (p := ⟨R, 0, none⟩) (by simp) (.int .i64 (min u x'))).setCell (p := ⟨R, 1, none⟩) (by simp) (.int .i64 (max v y')))
      clear k0 k1 fk0 fk1 hd0 hd1 HR1 HZ1 HB1 L
      go_wp2
      go_roundw
      case rel => exact ⟨k + 1, _, _, by omega, by omega, by go_num, HR2.out, HZ2.out, HB2.out⟩
      case measure => simp [intOf] <;> omega
    · have B3 := B2.trans (HB.mono (by omega))
      clear z0 z1 fz0 fz1 hc0 hc1
      have r0 : wr.cell? ⟨R, 0, none⟩ = some (.int .i64 u) := HR.cell 0
      have r1 : wr.cell? ⟨R, 1, none⟩ = some (.int .i64 v) := HR.cell 1
      have z0 : wr.cell? ⟨w.heap.size, 0, none⟩ = some (.int .i64 0) := HZ.cell 0; have fz0 := HZ.frozen 0
      have z1 : wr.cell? ⟨w.heap.size, 1, none⟩ = some (.int .i64 0) := HZ.cell 1; have fz1 := HZ.frozen 1
      go_wp2
      obtain ⟨w6, hw6⟩ : ∃ w6, (wr.setCell ⟨w.heap.size, 0, none⟩ (.int .i64 u)).setCell ⟨w.heap.size, 1, none⟩ (.int .i64 v) = w6 := ⟨_, rfl⟩
      have K6 : Blk w6 w.heap.size 49 #[.int .i64 u, .int .i64 v] := hw6 ▸ HZ.two _ _
      have B6 : Below w.heap.size w w6 := hw6 ▸ (B3.setCell (by simp) _).setCell (by simp) _
      rw [hw6]
      clear z0 z1 fz0 fz1
      have z0 : w6.cell? ⟨w.heap.size, 0, none⟩ = some (.int .i64 u) := K6.cell 0
      have z1 : w6.cell? ⟨w.heap.size, 1, none⟩ = some (.int .i64 v) := K6.cell 1
      exact bodyPost_ret (v := .tuple #[.agg #[.int .i64 u, .int .i64 v], .int .i64 0]) (by simp [results, go_sem, z0, z1]) rfl ⟨_, _, _, rfl, B6⟩
end Go.Proofs.Ytciicolknphcnaa
