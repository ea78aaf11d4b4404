/- The grid of a list of soundings: the plain function, the two programs' steps. -/
import Derived.Test.YtciicolknphcnaaCell
import Derived.Test.YtciicolknphcnaaSndOk
import Derived.Deep.Cut
import Derived.BigRegion
namespace Go.Proofs.Ytciicolknphcnaa
open Go.RowKit
set_option maxRecDepth 100000
set_option linter.unusedVariables false
set_option linter.unusedSimpArgs false

def hullP (d b : Int × Int) : Int × Int := (min d.1 b.1, max d.2 b.2)
def addC (cs : List Int) (i : Nat) : List Int := cs.set i (cs[i]?.getD 0 + 1)
def addD (cs : List Int) (ds : List (Int × Int)) (i : Nat) (b : Int × Int) : List (Int × Int) := ds.set i (if cs[i]?.getD 0 = 0 then b else hullP (ds[i]?.getD (0, 0)) b)

theorem prs_set {ds : List (Int × Int)} {i : Nat} {u v : Int} : ((prs ds).set (i * 2) (.int .i64 u)).set (i * 2 + 1) (.int .i64 v) = prs (ds.set i (u, v)) := by
  induction ds generalizing i with
  | nil => simp [prs]
  | cons d t ih =>
    cases i with
    | zero => simp [prs]
    | succ i =>
      have e1 : (i + 1) * 2 = i * 2 + 1 + 1 := by omega
      have e2 : prs (d :: t) = .int .i64 d.1 :: .int .i64 d.2 :: prs t := by simp [prs]
      rw [e1, e2]
      simp only [List.set_cons_succ]
      rw [ih]
      simp [prs]
theorem ints_set {cs : List Int} {i : Nat} {u : Int} : (ints cs).set i (.int .i64 u) = ints (cs.set i u) := by simp [ints, List.map_set]

theorem gr_below {w w1 w2 : World} {row : Option Nat} (h : w.grownBy w1 row) (hb : Below w.heap.size w1 w2) : w.grownBy w2 row :=
  ⟨hb.os.trans h.os, hb.tape.trans h.tape, hb.output.trans h.output, Nat.le_trans h.size hb.size, fun k hk hne => (hb.block k hk).trans (h.block k hk hne)⟩
theorem gr_drew {w w1 : World} {row : Option Nat} (h : w.grownBy w1 row) : w.grownBy w1.drew row := ⟨h.os, h.tape, h.output, h.size, h.block⟩
theorem gr_alloc {w w1 : World} {row : Option Nat} (h : w.grownBy w1 row) (o : Obj) : w.grownBy (w1.alloc o) row :=
  gr_below h ((Below.refl _ _).alloc h.size o)
theorem l02Hull_any (a b l h : Int) (w : World) : Calls Try.prog 59 #[.agg #[.int .i64 a, .int .i64 b], .agg #[.int .i64 l, .int .i64 h]] w fun e w' => e = .returned (.agg #[.int .i64 (min a l), .int .i64 (max b h)]) ∧ Below w.heap.size w w' := by
  go_enter Try.func59, Try.ntmps59
  go_wp2
  go_returns
  exact ⟨rfl, by go_grown⟩

section
variable {w : World} {lo hi lo' hi' p q n i : Nat} {cs : List Int} {ds : List (Int × Int)}
theorem dGet (hd : Own w lo' hi' 49 2 (some ⟨q, 0, none⟩) n n (prs ds)) (hin : i < n) : ∃ u v, ds[i]? = some (u, v) ∧ w.cell? ⟨q, i * 2, none⟩ = some (.int .i64 u) ∧ w.cell? ⟨q, i * 2 + 1, none⟩ = some (.int .i64 v) := by
  have hl := hd.row.len2
  obtain ⟨⟨u, v⟩, h0⟩ : ∃ d, ds[i]? = some d := ⟨_, List.getElem?_eq_getElem (by omega)⟩
  have hg := prs_get h0
  exact ⟨u, v, h0, (hd.cellAt _ (by omega)).trans hg.1, (hd.cellAt _ (by omega)).trans hg.2⟩
theorem cGet (hc : Own w lo hi 2 1 (some ⟨p, 0, none⟩) n n (ints cs)) (hin : i < n) : ∃ c, cs[i]? = some c ∧ w.cell? ⟨p, i, none⟩ = some (.int .i64 c) := by
  have hl := hc.row.len
  have h0 : cs[i]? = some (cs[i]'(by omega)) := List.getElem?_eq_getElem (by omega)
  exact ⟨_, h0, (hc.cellAt _ (by omega)).trans (ints_get h0)⟩
end

set_option maxHeartbeats 1600000 in
theorem l22Add_any (s x y l g : Int) (pa : Option Addr) (m c q n i : Nat) (ds : List (Int × Int)) (known : Bool) (w : World) (hd : Own w q (q + 1) 49 2 (some ⟨q, 0, none⟩) n n (prs ds)) (hin : i < n) (hn : n ≤ 1048576) :
    Calls Try.prog 29 #[.agg #[.int .i64 s, .int .i64 x, .int .i64 y, .slice pa m c, .slice (some ⟨q, 0, none⟩) n n], .int .i64 (i : Int), .bool known, .agg #[.int .i64 l, .int .i64 g]] w fun e w' => (∃ v, e = .returned v) ∧ Own w' q (q + 1) 49 2 (some ⟨q, 0, none⟩) n n (prs (ds.set i (if known then hullP (ds[i]?.getD (0, 0)) (l, g) else (l, g)))) ∧ w.grownBy w' (some q) := by
  obtain ⟨u, v, hx, hu, hv⟩ := dGet hd hin
  have hql := (hd.lt q rfl).2.2
  have hd1 := (hd.alloc (.cells #[.int .i64 s, .int .i64 x, .int .i64 y, .slice pa m c, .slice (some ⟨q, 0, none⟩) n n] 27)).alloc (.cells #[.int .i64 l, .int .i64 g] 49)
  have G := gr_alloc (gr_alloc (World.grownBy.refl w (some q)) (.cells #[.int .i64 s, .int .i64 x, .int .i64 y, .slice pa m c, .slice (some ⟨q, 0, none⟩) n n] 27)) (.cells #[.int .i64 l, .int .i64 g] 49)
  have f0 := hd.frozenAt (i * 2); have f1 := hd.frozenAt (i * 2 + 1)
  cases known
  · go_enter Try.func29, Try.ntmps29
    go_wp2
    refine bodyPost_end (v := .tuple #[]) (by simp [results, go_sem]) rfl ⟨⟨_, rfl⟩, ?_⟩
    have st := hd.stored (i * 2) (.int .i64 l)
    have st2 := st.1.stored (i * 2 + 1) (.int .i64 g)
    rw [prs_set] at st2
    exact ⟨(st2.1.alloc _).alloc _, gr_alloc (gr_alloc (st.2.trans st2.2) _) _⟩
  · obtain ⟨wa, hwa⟩ : ∃ wa, (w.alloc (.cells #[.int .i64 s, .int .i64 x, .int .i64 y, .slice pa m c, .slice (some ⟨q, 0, none⟩) n n] 27)).alloc (.cells #[.int .i64 l, .int .i64 g] 49) = wa := ⟨_, rfl⟩
    obtain ⟨H, hH⟩ : ∃ H, w.heap.size = H := ⟨_, rfl⟩
    have K1 := Lib.hid (show Blk wa H 27 #[.int .i64 s, .int .i64 x, .int .i64 y, .slice pa m c, .slice (some ⟨q, 0, none⟩) n n] from hwa ▸ (Blk.new' w _ _ hH.symm).alloc _)
    have K2 := Lib.hid (show Blk wa (H + 1) 49 #[.int .i64 l, .int .i64 g] from hwa ▸ Blk.new' _ _ _ (by simp [hH]))
    have HD := Lib.hid (show Own wa q (q + 1) 49 2 (some ⟨q, 0, none⟩) n n (prs ds) from hwa ▸ hd1)
    have HG := Lib.hid (show w.grownBy wa (some q) from hwa ▸ G)
    have hqH : q < H := hH ▸ hql
    have hqH1 : q < H + 1 := by omega
    clear hd1 G hd f0 f1
    have HU := Lib.hid hx
    have hcu : wa.cell? ⟨q, i * 2, none⟩ = some (.int .i64 u) := (HD.out.cellAt _ (by omega)).trans (prs_get hx).1
    have hcv : wa.cell? ⟨q, i * 2 + 1, none⟩ = some (.int .i64 v) := (HD.out.cellAt _ (by omega)).trans (prs_get hx).2
    have k4 : wa.cell? ⟨H, 4, none⟩ = some (.slice (some ⟨q, 0, none⟩) n n) := K1.out.cell 4
    have k0 : wa.cell? ⟨H + 1, 0, none⟩ = some (.int .i64 l) := K2.out.cell 0; have k1 : wa.cell? ⟨H + 1, 1, none⟩ = some (.int .i64 g) := K2.out.cell 1
    have fk0 := K2.out.frozen 0; have fk1 := K2.out.frozen 1
    clear hu hv hql
    go_enter Try.func29, Try.ntmps29
    go_wp2_with fail
    refine wp_region_held_drew (S := fun w' => w'.cell? ⟨H, 4, none⟩ = some (.slice (some ⟨q, 0, none⟩) n n) ∧ w'.cell? ⟨q, i * 2, none⟩ = some (.int .i64 u) ∧ w'.cell? ⟨q, i * 2 + 1, none⟩ = some (.int .i64 v)) (by kernel_rfl) (⟨by first | exact k4 | (simp [World.cell?_setCell_far, k4]; done), by first | exact hcu | (simp [World.cell?_setCell_far, Nat.ne_of_gt hqH1, hcu]; done), by first | exact hcv | (simp [World.cell?_setCell_far, Nat.ne_of_gt hqH1, hcv]; done)⟩) (fun hHeld => ?_)
    refine wpAnyH_take (i := 0) (oi := ?oix0) (v := ?vx0) ?hix0 (by kernel_rfl) (by kernel_rfl) (by kernel_rfl) ?hQx0 ?hyx0 (by assumption) ?hrx0
    case hix0 => (simp only [List.getElem?_toArray, List.getElem?_cons_succ, List.getElem?_cons_zero]; rfl)
    case hQx0 => exact fun _ _ _ h => h
    case hyx0 => (refine Or.inl ⟨by rfl, ?_⟩; intro w hSw; (try dsimp only at hSw); (go_simp <;> with_reducible rfl))
    (try simp only [Act.put, List.setIfInBounds_toArray, List.set_cons_zero, List.set_cons_succ])
    refine wpAnyH_take (i := 1) (oi := ?oix1) (v := ?vx1) ?hix1 (by kernel_rfl) (by kernel_rfl) (by kernel_rfl) ?hQx1 ?hyx1 (by assumption) ?hrx1
    case hix1 => (simp only [List.getElem?_toArray, List.getElem?_cons_succ, List.getElem?_cons_zero]; rfl)
    case hQx1 => exact fun _ _ _ h => h
    case hyx1 => (refine Or.inl ⟨by rfl, ?_⟩; intro w hSw; (try dsimp only at hSw); (go_simp <;> with_reducible rfl))
    (try simp only [Act.put, List.setIfInBounds_toArray, List.set_cons_zero, List.set_cons_succ])
    refine wpAnyH_take (i := 2) (oi := ?oix2) (v := ?vx2) ?hix2 (by kernel_rfl) (by kernel_rfl) (by kernel_rfl) ?hQx2 ?hyx2 (by assumption) ?hrx2
    case hix2 => (simp only [List.getElem?_toArray, List.getElem?_cons_succ, List.getElem?_cons_zero]; rfl)
    case hQx2 => exact fun _ _ _ h => h
    case hyx2 => (refine Or.inl ⟨by rfl, ?_⟩; intro w hSw; (try dsimp only at hSw); (go_simp <;> with_reducible rfl))
    (try simp only [Act.put, List.setIfInBounds_toArray, List.set_cons_zero, List.set_cons_succ])
    refine wpAnyH_take (i := 3) (oi := ?oix3) (v := ?vx3) ?hix3 (by kernel_rfl) (by kernel_rfl) (by kernel_rfl) ?hQx3 ?hyx3 (by assumption) ?hrx3
    case hix3 => (simp only [List.getElem?_toArray, List.getElem?_cons_succ, List.getElem?_cons_zero]; rfl)
    case hQx3 => exact fun _ _ _ h => h
    case hyx3 => (refine Or.inl ⟨by rfl, ?_⟩; intro w hSw; (try dsimp only at hSw); (go_simp <;> with_reducible rfl))
    (try simp only [Act.put, List.setIfInBounds_toArray, List.set_cons_zero, List.set_cons_succ])
    refine wpAnyH_take (i := 4) (oi := ?oix4) (v := ?vx4) ?hix4 (by kernel_rfl) (by kernel_rfl) (by kernel_rfl) ?hQx4 ?hyx4 (by assumption) ?hrx4
    case hix4 => (simp only [List.getElem?_toArray, List.getElem?_cons_succ, List.getElem?_cons_zero]; rfl)
    case hQx4 => exact fun _ _ _ h => h
    case hyx4 => (refine Or.inl ⟨by rfl, ?_⟩; intro w hSw; (try dsimp only at hSw); (go_simp <;> with_reducible rfl))
    (try simp only [Act.put, List.setIfInBounds_toArray, List.set_cons_zero, List.set_cons_succ])
    refine wpAnyH_ready (rs := [5]) (by kernel_rfl) (by simp) ?_
    refine AllReadyH.cons (o := ?oix5) ?hix5 ?hax5 AllReadyH.nil
    case hix5 => (simp only [List.getElem?_toArray, List.getElem?_cons_succ, List.getElem?_cons_zero]; rfl)
    intro K hK
    go_simp
    skip
    refine hK.out _ _ (⟨by first | exact k4 | (simp [World.cell?_setCell_far, k4]; done), by first | exact hcu | (simp [World.cell?_setCell_far, Nat.ne_of_gt hqH1, hcu]; done), by first | exact hcv | (simp [World.cell?_setCell_far, Nat.ne_of_gt hqH1, hcv]; done)⟩) (fun hHeld => ?_)
    clear hK K
    (try simp only [Act.put, List.setIfInBounds_toArray, List.set_cons_zero, List.set_cons_succ])
    refine wpAnyH_ready (rs := [6]) (by kernel_rfl) (by simp) ?_
    refine AllReadyH.cons (o := ?oix6) ?hix6 ?hax6 AllReadyH.nil
    case hix6 => (simp only [List.getElem?_toArray, List.getElem?_cons_succ, List.getElem?_cons_zero]; rfl)
    intro K hK
    go_simp
    go_at_call 59
    refine (l02Hull_any _ _ _ _ _).mono ?_
    rintro e w7 ⟨rfl, hb⟩
    replace K1 := Lib.hid (K1.out.drew.belowSelf hb)
    replace K2 := Lib.hid (K2.out.drew.belowSelf hb)
    replace HD := Lib.hid (HD.out.drew.below hb (.inr (Nat.le_refl _)))
    replace HG := Lib.hid (gr_below (gr_drew HG.out) (hb.mono HG.out.size))
    clear k4 k0 k1 fk0 fk1 hcu hcv
    have hcu : w7.cell? ⟨q, i * 2, none⟩ = some (.int .i64 u) := (HD.out.cellAt _ (by omega)).trans (prs_get HU.out).1
    have hcv : w7.cell? ⟨q, i * 2 + 1, none⟩ = some (.int .i64 v) := (HD.out.cellAt _ (by omega)).trans (prs_get HU.out).2
    have k4 : w7.cell? ⟨H, 4, none⟩ = some (.slice (some ⟨q, 0, none⟩) n n) := K1.out.cell 4
    have k0 : w7.cell? ⟨H + 1, 0, none⟩ = some (.int .i64 l) := K2.out.cell 0; have k1 : w7.cell? ⟨H + 1, 1, none⟩ = some (.int .i64 g) := K2.out.cell 1
    have fk0 := K2.out.frozen 0; have fk1 := K2.out.frozen 1
    clear hb
    refine hK.out _ _ (⟨by first | exact k4 | (simp [World.cell?_setCell_far, k4]; done), by first | exact hcu | (simp [World.cell?_setCell_far, Nat.ne_of_gt hqH1, hcu]; done), by first | exact hcv | (simp [World.cell?_setCell_far, Nat.ne_of_gt hqH1, hcv]; done)⟩) (fun hHeld => ?_)
    clear hK K
    (try simp only [Act.put, List.setIfInBounds_toArray, List.set_cons_zero, List.set_cons_succ])
    refine wpAnyH_ready (rs := [7]) (by kernel_rfl) (by simp) ?_
    refine AllReadyH.cons (o := ?oix7) ?hix7 ?hax7 AllReadyH.nil
    case hix7 => (simp only [List.getElem?_toArray, List.getElem?_cons_succ, List.getElem?_cons_zero]; rfl)
    intro K hK
    go_simp
    skip
    refine hK.out _ _ (⟨by first | exact k4 | (simp [World.cell?_setCell_far, k4]; done), by first | exact hcu | (simp [World.cell?_setCell_far, Nat.ne_of_gt hqH1, hcu]; done), by first | exact hcv | (simp [World.cell?_setCell_far, Nat.ne_of_gt hqH1, hcv]; done)⟩) (fun hHeld => ?_)
    clear hK K
    (try simp only [Act.put, List.setIfInBounds_toArray, List.set_cons_zero, List.set_cons_succ])
    refine wpAnyH_done (by kernel_rfl) ?_ _
    have fq0 := HD.out.frozenAt (i * 2); have fq1 := HD.out.frozenAt (i * 2 + 1)
    have hqz := (HD.out.lt q rfl).2.2
    go_wp2
    refine bodyPost_end (v := .tuple #[]) (by simp [results, go_sem]) rfl ⟨⟨_, rfl⟩, ?_⟩
    have HD2 := (HD.out.setFar (p := ⟨H + 1, 0, none⟩) (.inr (by simp; omega)) (.int .i64 (min u l))).setFar (p := ⟨H + 1, 1, none⟩) (.inr (by simp; omega)) (.int .i64 (max v g))
    have HG2 := gr_below HG.out (((Below.refl w.heap.size w7).setCell (p := ⟨H + 1, 0, none⟩) (by simp; omega) (.int .i64 (min u l))).setCell (p := ⟨H + 1, 1, none⟩) (by simp; omega) (.int .i64 (max v g)))
    have st := HD2.stored (i * 2) (.int .i64 (min u l))
    have st2 := st.1.stored (i * 2 + 1) (.int .i64 (max v g))
    rw [prs_set] at st2
    exact ⟨st2.1, (HG2.trans st.2).trans st2.2⟩

theorem addStores {w : World} {p q n i : Nat} {cs : List Int} {ds : List (Int × Int)} (hc : Own w p (p + 1) 2 1 (some ⟨p, 0, none⟩) n n (ints cs)) (hd : Own w q (q + 1) 49 2 (some ⟨q, 0, none⟩) n n (prs ds)) (hpq : p ≠ q) (a b k : Int) (o1 o2 : Obj) :
    Own ((((((w.setCell ⟨q, i * 2, none⟩ (.int .i64 a)).setCell ⟨q, i * 2 + 1, none⟩ (.int .i64 b)).setCell ⟨p, i, none⟩ (.int .i64 k)).alloc o1).alloc o2)) p (p + 1) 2 1 (some ⟨p, 0, none⟩) n n (ints (cs.set i k)) ∧ Own ((((((w.setCell ⟨q, i * 2, none⟩ (.int .i64 a)).setCell ⟨q, i * 2 + 1, none⟩ (.int .i64 b)).setCell ⟨p, i, none⟩ (.int .i64 k)).alloc o1).alloc o2)) q (q + 1) 49 2 (some ⟨q, 0, none⟩) n n (prs (ds.set i (a, b))) ∧ ∃ w1, w.grownBy w1 (some q) ∧ w1.grownBy ((((((w.setCell ⟨q, i * 2, none⟩ (.int .i64 a)).setCell ⟨q, i * 2 + 1, none⟩ (.int .i64 b)).setCell ⟨p, i, none⟩ (.int .i64 k)).alloc o1).alloc o2)) (some p) := by
  have d1 := hd.stored (i * 2) (.int .i64 a)
  have d2 := d1.1.stored (i * 2 + 1) (.int .i64 b)
  rw [prs_set] at d2
  have hpq2 : p < q ∨ q + 1 ≤ p := by omega
  have c2 := (hc.setFar (p := ⟨q, i * 2, none⟩) (show q < p ∨ p + 1 ≤ q by omega) (.int .i64 a)).setFar (p := ⟨q, i * 2 + 1, none⟩) (show q < p ∨ p + 1 ≤ q by omega) (.int .i64 b)
  have c3 := c2.stored i (.int .i64 k)
  rw [ints_set] at c3
  exact ⟨(c3.1.alloc _).alloc _, ((d2.1.setFar hpq2 _).alloc _).alloc _, _, d1.2.trans d2.2, gr_alloc (gr_alloc c3.2 _) _⟩

set_option maxHeartbeats 1600000 in
theorem add_any (s x y l g : Int) (p q n i : Nat) (cs : List Int) (ds : List (Int × Int)) (w : World) (hc : Own w p (p + 1) 2 1 (some ⟨p, 0, none⟩) n n (ints cs)) (hd : Own w q (q + 1) 49 2 (some ⟨q, 0, none⟩) n n (prs ds)) (hpq : p ≠ q) (hin : i < n) (hn : n ≤ 1048576) (hok : ∀ c ∈ cs, 0 ≤ c ∧ c ≤ 1000) :
    Calls Try.prog 35 #[.agg #[.int .i64 s, .int .i64 x, .int .i64 y, .slice (some ⟨p, 0, none⟩) n n, .slice (some ⟨q, 0, none⟩) n n], .int .i64 (i : Int), .agg #[.int .i64 l, .int .i64 g], .int .i64 1] w fun e w' => (∃ v, e = .returned v) ∧ Own w' p (p + 1) 2 1 (some ⟨p, 0, none⟩) n n (ints (addC cs i)) ∧ Own w' q (q + 1) 49 2 (some ⟨q, 0, none⟩) n n (prs (addD cs ds i (l, g))) ∧ ∃ w1, w.grownBy w1 (some q) ∧ w1.grownBy w' (some p) := by
  obtain ⟨u, v, hx, hu, hv⟩ := dGet hd hin
  obtain ⟨c, hcx, hcc⟩ := cGet hc hin
  have hcb := hok c (List.mem_of_getElem? hcx)
  have hql := (hd.lt q rfl).2.2
  have hpl := (hc.lt p rfl).2.2
  have f0 := hd.frozenAt (i * 2); have f1 := hd.frozenAt (i * 2 + 1); have fp := hc.frozenAt i
  by_cases hc0 : c = 0
  · subst hc0
    go_enter Try.func35, Try.ntmps35
    go_wp2
    refine bodyPost_end (v := .tuple #[]) (by simp [results, go_sem]) rfl ⟨⟨_, rfl⟩, ?_⟩
    have := addStores (i := i) hc hd hpq l g 1 (.cells #[.int .i64 s, .int .i64 x, .int .i64 y, .slice (some ⟨p, 0, none⟩) n n, .slice (some ⟨q, 0, none⟩) n n] 27) (.cells #[.int .i64 l, .int .i64 g] 49)
    rw [show addC cs i = cs.set i 1 by simp [addC, hcx], show addD cs ds i (l, g) = ds.set i (l, g) by simp [addD, hcx]]
    exact this
  · have hc0b : (c != 0) = true := by simpa using hc0
    go_enter Try.func35, Try.ntmps35
    go_wp2_with fail
    go_region
    go_wp2
    refine bodyPost_end (v := .tuple #[]) (by simp [results, go_sem]) rfl ⟨⟨_, rfl⟩, ?_⟩
    have := addStores (i := i) hc hd hpq (min u l) (max v g) (c + 1) (.cells #[.int .i64 s, .int .i64 x, .int .i64 y, .slice (some ⟨p, 0, none⟩) n n, .slice (some ⟨q, 0, none⟩) n n] 27) (.cells #[.int .i64 (min u l), .int .i64 (max v g)] 49)
    rw [show addC cs i = cs.set i (c + 1) by simp [addC, hcx], show addD cs ds i (l, g) = ds.set i (min u l, max v g) by simp [addD, hcx, hc0, hx, hullP]]
    obtain ⟨t1, t2, w1, t3, t4⟩ := this
    exact ⟨t1.drew, t2.drew, w1, t3, gr_drew t4⟩

theorem made_same2 (z : Value) (m : Nat) : (madeCells #[z, z] m).toList = List.replicate m z := by
  apply List.ext_getElem
  · simp [size_madeCells]
  · intro i h1 h2
    have h3 : i % 2 = 0 ∨ i % 2 = 1 := by omega
    simp only [madeCells, Array.toList_map, List.getElem_map, Array.toList_range, List.getElem_range, List.getElem_replicate]
    show (#[z, z] : Array Value)[i % 2]! = z
    rcases h3 with h | h <;> rw [h] <;> rfl
theorem prs_zeros : ∀ n : Nat, prs (List.replicate n (0, 0)) = List.replicate (n * 2) (.int .i64 0)
  | 0 => rfl
  | n + 1 => by
    rw [List.replicate_succ, show (n + 1) * 2 = n * 2 + 1 + 1 by omega, List.replicate_succ, List.replicate_succ, ← prs_zeros n]
    rfl
theorem made_prs (n : Nat) : (madeCells #[.int .i64 0, .int .i64 0] (n * 2)).toList = prs (List.replicate n (0, 0)) := by
  rw [made_same2, prs_zeros]

def NewGrid (s x y : Int) (N B : Nat) (w : World) (e : Ending) (w' : World) : Prop := ∃ p q : Nat, p ≠ q ∧ B ≤ p ∧ B ≤ q ∧ e = .returned (.agg #[.int .i64 s, .int .i64 x, .int .i64 y, .slice (some ⟨p, 0, none⟩) N N, .slice (some ⟨q, 0, none⟩) N N]) ∧ Own w' p (p + 1) 2 1 (some ⟨p, 0, none⟩) N N (ints (List.replicate N 0)) ∧ Own w' q (q + 1) 49 2 (some ⟨q, 0, none⟩) N N (prs (List.replicate N (0, 0))) ∧ Below w.heap.size w w'
theorem World.heap_alloc_size' (w : World) (o : Obj) : (w.alloc o).heap.size = w.heap.size + 1 := by simp
theorem newGrid_1 (s x y : Int) {N : Nat} (w : World) (o : Obj) (hN : N ≤ 900) : NewGrid s x y N w.heap.size w (.returned (.agg #[.int .i64 s, .int .i64 x, .int .i64 y, .slice (some ⟨w.heap.size + 1, 0, none⟩) N N, .slice (some ⟨w.heap.size + 1 + 1, 0, none⟩) N N])) (((w.alloc o).alloc (.cells (madeCells #[.int .i64 0] N) 2)).alloc (.cells (madeCells #[.int .i64 0, .int .i64 0] (N * 2)) 49)).drew := by
  have h1 := Own.made (w.alloc o) (.int .i64 0) (n := N) (E := 2) (by simp only [maxLen]; omega)
  have h2 := Own.madeK ((w.alloc o).alloc (.cells (madeCells #[.int .i64 0] N) 2)) #[.int .i64 0, .int .i64 0] (n := N) (E := 49) (s := 2) (by simp only [maxLen]; omega)
  have h1' := h1.alloc (.cells (madeCells #[.int .i64 0, .int .i64 0] (N * 2)) 49)
  rw [made_prs] at h2
  rw [show (List.replicate N (Value.int .i64 0)) = ints (List.replicate N 0) by simp [ints]] at h1'
  simp only [World.heap_alloc_size'] at h1' h2
  exact ⟨_, _, by omega, by omega, by omega, rfl, h1'.drew, h2.drew, by go_grown⟩
theorem newGrid_2 (s x y : Int) {N : Nat} (w : World) (o : Obj) (hN : N ≤ 900) : NewGrid s x y N w.heap.size w (.returned (.agg #[.int .i64 s, .int .i64 x, .int .i64 y, .slice (some ⟨w.heap.size + 1 + 1, 0, none⟩) N N, .slice (some ⟨w.heap.size + 1, 0, none⟩) N N])) (((w.alloc o).alloc (.cells (madeCells #[.int .i64 0, .int .i64 0] (N * 2)) 49)).alloc (.cells (madeCells #[.int .i64 0] N) 2)).drew := by
  have h1 := Own.madeK (w.alloc o) #[.int .i64 0, .int .i64 0] (n := N) (E := 49) (s := 2) (by simp only [maxLen]; omega)
  have h2 := Own.made ((w.alloc o).alloc (.cells (madeCells #[.int .i64 0, .int .i64 0] (N * 2)) 49)) (.int .i64 0) (n := N) (E := 2) (by simp only [maxLen]; omega)
  have h1' := h1.alloc (.cells (madeCells #[.int .i64 0] N) 2)
  rw [made_prs] at h1'
  rw [show (List.replicate N (Value.int .i64 0)) = ints (List.replicate N 0) by simp [ints]] at h2
  simp only [World.heap_alloc_size'] at h1' h2
  exact ⟨_, _, by omega, by omega, by omega, rfl, h2.drew, h1'.drew, by go_grown⟩
set_option maxHeartbeats 1600000 in
theorem l22New_any (s x y : Int) (N : Nat) (w : World) (hxy : x * y = (N : Int)) (hN : N ≤ 900) :
    Calls Try.prog 27 #[.int .i64 s, .int .i64 x, .int .i64 y] w fun e w' => NewGrid s x y N w.heap.size w e w' := by
  have hmk : ∀ w, (Instr.makeSlice 24 (.int .i64 (N : Int)) (.int .i64 (N : Int))).run Try.prog w = .ok (.slice (some ⟨w.heap.size, 0, none⟩) N N) (w.alloc (.cells (madeCells #[.int .i64 0] N) 2)) := run_make_row' (P := Try.prog) 24 2 (.int .i64 0) 8 Try.underlying24 info_i64 rfl .i64 .i64 N (by omega) (by omega)
  have hmk2 := run_make_rowK (P := Try.prog) 25 49 info_Interval Try.underlying25 N (by omega) (by omega)
  go_enter Try.func27, Try.ntmps27
  go_wp2_with fail
  go_region
  · go_wp2
    go_returns
    exact newGrid_1 s x y w _ hN
  · go_wp2
    go_returns
    exact newGrid_2 s x y w _ hN
end Go.Proofs.Ytciicolknphcnaa
