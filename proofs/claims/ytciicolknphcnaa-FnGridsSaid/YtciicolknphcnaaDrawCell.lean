/- A grid and a place that are drawn, whatever the code. -/
import Derived.Test.YtciicolknphcnaaGridD
namespace Go.Proofs.Ytciicolknphcnaa
open Go.RowKit
set_option maxRecDepth 100000
set_option linter.unusedVariables false
set_option linter.unusedSimpArgs false
set_option linter.unusedVariables false

/-- What the draw keeps: the source, the result's box H, the grid's box K, the grid's two rows. -/
structure CSt (w wr : World) (p H K g q n : Nat) (v2 v6 : Array Value) (cs : List Int) (ds : List (Int × Int)) : Prop where
  hs : SrcOk wr p
  gr : w.grownBy wr (some p)
  k2 : Blk wr H 27 v2
  k6 : Blk wr K 27 v6
  rg : Row wr 1 (some ⟨g, 0, none⟩) n (ints cs)
  rq : Row wr 2 (some ⟨q, 0, none⟩) n (prs ds)
  st : H < p ∧ p < w.heap.size ∧ w.heap.size ≤ K ∧ p < g ∧ p < q
section
variable {w wr wr' : World} {p H K g q n : Nat} {v2 v6 : Array Value} {cs : List Int} {ds : List (Int × Int)}
theorem CSt.draw (h : CSt w wr p H K g q n v2 v6 cs ds) (hs : SrcOk wr' p) (hg : wr.grownBy wr' (some p)) : CSt w wr' p H K g q n v2 v6 cs ds := by
  obtain ⟨s1, s2, s3, s4, s5⟩ := h.st
  exact ⟨hs, h.gr.trans hg, h.k2.grown hg (fun e => by injection e with e; omega), h.k6.grown hg (fun e => by injection e with e; omega), h.rg.apart1 (by omega) hg (fun _ b off e => by injection e with e; injection e with e _ _; omega), h.rq.apart1 (by omega) hg (fun _ b off e => by injection e with e; injection e with e _ _; omega), h.st⟩
theorem CSt.below (h : CSt w wr p H K g q n v2 v6 cs ds) (hb : Below wr.heap.size wr wr') : CSt w wr' p H K g q n v2 v6 cs ds :=
  ⟨h.hs.below hb h.hs.lt, grown_below h.gr (hb.mono h.gr.size), h.k2.belowSelf hb, h.k6.belowSelf hb, h.rg.below hb (Nat.le_refl _), h.rq.below2 hb (Nat.le_refl _), h.st⟩
theorem CSt.drew (h : CSt w wr p H K g q n v2 v6 cs ds) : CSt w wr.drew p H K g q n v2 v6 cs ds := h.below (Below.refl _ _).drew
theorem CSt.alloc (h : CSt w wr p H K g q n v2 v6 cs ds) (o : Obj) : CSt w (wr.alloc o) p H K g q n v2 v6 cs ds := h.below ((Below.refl _ _).alloc (Nat.le_refl _) o)
structure CEnd (w wr : World) (H K g q n : Nat) (v2 v6 : Array Value) (cs : List Int) (ds : List (Int × Int)) : Prop where
  gr : Below H w wr
  k2 : Blk wr H 27 v2
  k6 : Blk wr K 27 v6
  rg : Row wr 1 (some ⟨g, 0, none⟩) n (ints cs)
  rq : Row wr 2 (some ⟨q, 0, none⟩) n (prs ds)
theorem CSt.five {w0 : World} (hb : Below H w0 w) (h : CSt w wr p H K g q n #[.int .i64 0, .int .i64 0, .int .i64 0, .slice none 0 0, .slice none 0 0] v6 cs ds) (u0 u1 u2 u3 u4 : Value) : CEnd w0 (((((wr.setCell ⟨H, 0, none⟩ u0).setCell ⟨H, 1, none⟩ u1).setCell ⟨H, 2, none⟩ u2).setCell ⟨H, 3, none⟩ u3).setCell ⟨H, 4, none⟩ u4) H K g q n #[u0, u1, u2, u3, u4] v6 cs ds := by
  obtain ⟨s1, s2, s3, s4, s5⟩ := h.st
  have hg : wr.grownBy (((((wr.setCell ⟨H, 0, none⟩ u0).setCell ⟨H, 1, none⟩ u1).setCell ⟨H, 2, none⟩ u2).setCell ⟨H, 3, none⟩ u3).setCell ⟨H, 4, none⟩ u4) (some H) := gset (gset (gset (gset (gset (World.grownBy.refl wr (some H)) 0 u0) 1 u1) 2 u2) 3 u3) 4 u4
  refine ⟨?_, h.k2.five u0 u1 u2 u3 u4, far_five h.k6 (by omega) u0 u1 u2 u3 u4, h.rg.apart1 (by omega) hg (fun _ b off e => by injection e with e; injection e with e _ _; omega), h.rq.apart1 (by omega) hg (fun _ b off e => by injection e with e; injection e with e _ _; omega)⟩
  have h1 : Below H w0 wr := ⟨h.gr.os.trans hb.os, h.gr.tape.trans hb.tape, h.gr.output.trans hb.output, Nat.le_trans hb.size h.gr.size, fun k hk => (h.gr.block k (by omega) (fun e => by injection e with e; omega)).trans (hb.block k hk)⟩
  exact ⟨hg.os.trans h1.os, hg.tape.trans h1.tape, hg.output.trans h1.output, Nat.le_trans h1.size hg.size, fun k hk => (hg.block k (by have := h.k2.lt; omega) (fun e => by injection e with e; omega)).trans (h1.block k hk)⟩
theorem lit_c {KK : Act → World → Prop} {f : Act} {W : World} {vs : Array Value} {E : Nat} (F : CSt w W p H K g q n v2 v6 cs ds) (h : ∀ W', CSt w W' p H K g q n v2 v6 cs ds → Below W.heap.size W W' → Blk W' W.heap.size E vs → p < W.heap.size → KK f W') : KK f (W.alloc (.cells vs E)) :=
  h _ (F.alloc _) ((Below.refl _ _).alloc (Nat.le_refl _) _) (Blk.new W E vs) F.hs.lt
theorem set_c5 {w0 : World} (hb : Below H w0 w) {KK : Act → World → Prop} {f : Act} {W : World} {u0 u1 u2 u3 u4 : Value} (F : CSt w W p H K g q n #[.int .i64 0, .int .i64 0, .int .i64 0, .slice none 0 0, .slice none 0 0] v6 cs ds) (h : ∀ W', CEnd w0 W' H K g q n #[u0, u1, u2, u3, u4] v6 cs ds → KK f W') : KK f (((((W.setCell ⟨H, 0, none⟩ u0).setCell ⟨H, 1, none⟩ u1).setCell ⟨H, 2, none⟩ u2).setCell ⟨H, 3, none⟩ u3).setCell ⟨H, 4, none⟩ u4) := h _ (F.five hb u0 u1 u2 u3 u4)
end

def CDraw (w : World) (e : Ending) (w' : World) : Prop := ∃ (s x y u v : Int) (g q n c d : Nat) (cs : List Int) (ds : List (Int × Int)), e = .returned (.tuple #[.agg #[.int .i64 s, .int .i64 x, .int .i64 y, .slice (some ⟨g, 0, none⟩) n c, .slice (some ⟨q, 0, none⟩) n d], .int .i64 u, .int .i64 v]) ∧ Row w' 1 (some ⟨g, 0, none⟩) n (ints cs) ∧ Row w' 2 (some ⟨q, 0, none⟩) n (prs ds) ∧ n ≤ 30 ∧ Below w.heap.size w w'

set_option maxHeartbeats 12800000 in
theorem drawCellOf_any (a : Option Addr) (m c0 : Nat) (bs : List Nat) (w : World) (h : Code8 w a m bs) :
    Calls Try.prog 16 #[.slice a m c0] w (CDraw w) := by
  obtain ⟨H, hH⟩ : ∃ H, w.heap.size = H := ⟨_, rfl⟩
  obtain ⟨wa, hwa⟩ : ∃ wa, w.alloc (.cells #[.int .i64 0, .int .i64 0, .int .i64 0, .slice none 0 0, .slice none 0 0] 27) = wa := ⟨_, rfl⟩
  have K2 := Lib.hid (show Blk wa H 27 #[.int .i64 0, .int .i64 0, .int .i64 0, .slice none 0 0, .slice none 0 0] from hwa ▸ Blk.new' w _ _ hH.symm)
  have HC := Lib.hid (show Code8 wa a m bs from hwa ▸ h.below ((Below.refl _ _).alloc (Nat.le_refl _) _) (Nat.le_refl _))
  have B0 := Lib.hid (show Below w.heap.size w wa from hwa ▸ (Below.refl _ _).alloc (Nat.le_refl _) _)
  have hz : wa.heap.size = H + 1 := by subst hwa; simp [hH]
  clear h
  go_enter Try.func16, Try.ntmps16
  go_wp2_with fail
  go_at_call 44
  refine (l01From_any _ _ _ _ _ HC.out).mono ?_
  rintro e w1 ⟨p, rfl, hp, hs, hb⟩
  have K2' := Lib.hid (K2.out.belowSelf hb)
  have HS := Lib.hid hs
  have hpw := hs.lt
  have B1 := Lib.hid (show Below H w w1 from (hH ▸ B0.out).trans (hb.mono (by omega)))
  have hHp : H < p := by omega
  clear hs hb HC K2 B0 hwa hp hz
  go_wp2_with fail
  go_at_call 48
  refine (l22Draw_any _ _ HS.out).mono ?_
  intro e w2 hd
  obtain ⟨s, x, y, g, q, n, c, d, cs, ds, rfl, rg, rq, hn30, hg0, hq0, hs, hg⟩ := hd
  obtain ⟨K, hK⟩ : ∃ K, w2.heap.size = K := ⟨_, rfl⟩
  have hzg := hg.size
  obtain ⟨w3, hw3⟩ : ∃ w3, w2.alloc (.cells #[.int .i64 s, .int .i64 x, .int .i64 y, .slice (some ⟨g, 0, none⟩) n c, .slice (some ⟨q, 0, none⟩) n d] 27) = w3 := ⟨_, rfl⟩
  have hst : H < p ∧ p < w1.heap.size ∧ w1.heap.size ≤ K ∧ p < g ∧ p < q := by omega
  have F := Lib.hid (show CSt w1 w3 p H K g q n #[.int .i64 0, .int .i64 0, .int .i64 0, .slice none 0 0, .slice none 0 0] #[.int .i64 s, .int .i64 x, .int .i64 y, .slice (some ⟨g, 0, none⟩) n c, .slice (some ⟨q, 0, none⟩) n d] cs ds from
    ⟨hw3 ▸ hs.alloc _, hw3 ▸ grown_alloc hg _, hw3 ▸ (K2'.out.grown hg (fun e => by injection e with e; omega)).alloc _, hw3 ▸ Blk.new' _ _ _ hK.symm, hw3 ▸ (rg.below ((Below.refl _ _).alloc (Nat.le_refl _) _) (Nat.le_refl _)), hw3 ▸ (rq.below2 ((Below.refl _ _).alloc (Nat.le_refl _) _) (Nat.le_refl _)), by omega⟩)
  clear hs hg rg rq K2' HS
  go_wp2_with fail
  go_at_call 45
  refine (l01Next_any _ _ _ F.out.hs (by omega)).mono ?_
  rintro e w4 ⟨t, rfl, ⟨ht0, ht1, -⟩, hs, hg⟩
  replace F := Lib.hid (F.out.draw hs hg)
  clear ht1 hs hg hw3
  by_cases ht : t = 0
  · subst ht
    go_upto_region 4 with (fail)
    replace F := Lib.hid F.out.drew
    refine wp_region_held_drew (S := fun w' => w'.cell? ⟨K, 0, none⟩ = some (.int .i64 s) ∧ w'.cell? ⟨K, 1, none⟩ = some (.int .i64 x) ∧ w'.cell? ⟨K, 2, none⟩ = some (.int .i64 y) ∧ w'.cell? ⟨K, 3, none⟩ = some (.slice (some ⟨g, 0, none⟩) n c) ∧ w'.cell? ⟨K, 4, none⟩ = some (.slice (some ⟨q, 0, none⟩) n d)) (by kernel_rfl) (⟨F.out.k6.cell 0, F.out.k6.cell 1, F.out.k6.cell 2, F.out.k6.cell 3, F.out.k6.cell 4⟩) (fun hHeld => ?_)
    refine wpAnyH_take (i := 0) (oi := ?oic0_1) (v := ?vc0_1) ?hic0_1 (by kernel_rfl) (by kernel_rfl) (by kernel_rfl) ?hQc0_1 ?hyc0_1 (by assumption) ?hrc0_1
    case hic0_1 => (simp only [List.getElem?_toArray, List.getElem?_cons_succ, List.getElem?_cons_zero]; rfl)
    case hQc0_1 => exact fun _ _ _ h => h
    case hyc0_1 => (refine Or.inl ⟨by rfl, ?_⟩; intro w hSw; (try dsimp only at hSw); (go_simp <;> with_reducible rfl))
    (try simp only [Act.put, List.setIfInBounds_toArray, List.set_cons_zero, List.set_cons_succ])
    refine wpAnyH_take (i := 1) (oi := ?oic1_2) (v := ?vc1_2) ?hic1_2 (by kernel_rfl) (by kernel_rfl) (by kernel_rfl) ?hQc1_2 ?hyc1_2 (by assumption) ?hrc1_2
    case hic1_2 => (simp only [List.getElem?_toArray, List.getElem?_cons_succ, List.getElem?_cons_zero]; rfl)
    case hQc1_2 => exact fun _ _ _ h => h
    case hyc1_2 => (refine Or.inl ⟨by rfl, ?_⟩; intro w hSw; (try dsimp only at hSw); (go_simp <;> with_reducible rfl))
    (try simp only [Act.put, List.setIfInBounds_toArray, List.set_cons_zero, List.set_cons_succ])
    refine wpAnyH_take (i := 4) (oi := ?oic4_3) (v := ?vc4_3) ?hic4_3 (by kernel_rfl) (by kernel_rfl) (by kernel_rfl) ?hQc4_3 ?hyc4_3 (by assumption) ?hrc4_3
    case hic4_3 => (simp only [List.getElem?_toArray, List.getElem?_cons_succ, List.getElem?_cons_zero]; rfl)
    case hQc4_3 => exact fun _ _ _ h => h
    case hyc4_3 => (refine Or.inl ⟨by rfl, ?_⟩; intro w hSw; (try dsimp only at hSw); (go_simp <;> with_reducible rfl))
    (try simp only [Act.put, List.setIfInBounds_toArray, List.set_cons_zero, List.set_cons_succ])
    refine wpAnyH_ready (rs := [2]) (by kernel_rfl) (by simp) ?_
    refine AllReadyH.cons (o := ?oic2_4) ?hic2_4 ?hac2_4 ?hnc2_4
    case hic2_4 => (simp only [List.getElem?_toArray, List.getElem?_cons_succ, List.getElem?_cons_zero]; rfl)
    case hac2_4 =>
      intro K hK
      refine step_lit rfl 24 2 3 _ [-1, 10000, 10001] (by rfl) Try.underlying24 (by rfl) (by rfl) rfl (by omega) (by omega) (by rfl) ?_
      refine lit_c (F := F.out) ?_
      intro WA F2 hbW hob hpA
      replace F := Lib.hid F2
      have RA := Lib.hid (show Row _ 1 _ 3 (ints [-1, 10000, 10001]) from hob.row1 rfl)
      clear hob F2 hbW
      refine hK.out _ _ (⟨F.out.k6.cell 0, F.out.k6.cell 1, F.out.k6.cell 2, F.out.k6.cell 3, F.out.k6.cell 4⟩) (fun hHeld => ?_)
      clear hK K
      (try simp only [Act.put, List.setIfInBounds_toArray, List.set_cons_zero, List.set_cons_succ])
      refine wpAnyH_ready (rs := [3]) (by kernel_rfl) (by simp) ?_
      refine AllReadyH.cons (o := ?oic3_5) ?hic3_5 ?hac3_5 ?hnc3_5
      case hic3_5 => (simp only [List.getElem?_toArray, List.getElem?_cons_succ, List.getElem?_cons_zero]; rfl)
      case hac3_5 =>
        intro K hK
        go_simp
        go_at_call 46
        refine (l01Pick_any _ _ _ _ [-1, 10000, 10001] _ F.out.hs RA.out (by omega) (by omega) (fun b off e => by injection e with e; injection e with e _ _; have := hpA; omega)).mono ?_
        rintro e wPu ⟨u, rfl, hx, hs, hg⟩
        replace F := Lib.hid (F.out.draw hs hg)
        clear hx hs hg
        refine hK.out _ _ (⟨F.out.k6.cell 0, F.out.k6.cell 1, F.out.k6.cell 2, F.out.k6.cell 3, F.out.k6.cell 4⟩) (fun hHeld => ?_)
        clear hK K
        (try simp only [Act.put, List.setIfInBounds_toArray, List.set_cons_zero, List.set_cons_succ])
        refine wpAnyH_ready (rs := [5]) (by kernel_rfl) (by simp) ?_
        refine AllReadyH.cons (o := ?oic5_6) ?hic5_6 ?hac5_6 ?hnc5_6
        case hic5_6 => (simp only [List.getElem?_toArray, List.getElem?_cons_succ, List.getElem?_cons_zero]; rfl)
        case hac5_6 =>
          intro K hK
          go_simp
          go_at_call 45
          refine (l01Next_any _ _ _ F.out.hs (by omega)).mono ?_
          rintro e wNv ⟨v, rfl, -, hs, hg⟩
          replace F := Lib.hid (F.out.draw hs hg)
          clear hs hg
          refine hK.out _ _ (⟨F.out.k6.cell 0, F.out.k6.cell 1, F.out.k6.cell 2, F.out.k6.cell 3, F.out.k6.cell 4⟩) (fun hHeld => ?_)
          clear hK K
          (try simp only [Act.put, List.setIfInBounds_toArray, List.set_cons_zero, List.set_cons_succ])
          refine wpAnyH_ready (rs := [6]) (by kernel_rfl) (by simp) ?_
          refine AllReadyH.cons (o := ?oic6_7) ?hic6_7 ?hac6_7 ?hnc6_7
          case hic6_7 => (simp only [List.getElem?_toArray, List.getElem?_cons_succ, List.getElem?_cons_zero]; rfl)
          case hac6_7 =>
            intro K hK
            have ha0 := F.out.k2.cell 0
            have ha1 := F.out.k2.cell 1
            have ha2 := F.out.k2.cell 2
            have ha3 := F.out.k2.cell 3
            have ha4 := F.out.k2.cell 4
            have hf0 := F.out.k2.frozen 0
            have hf1 := F.out.k2.frozen 1
            have hf2 := F.out.k2.frozen 2
            have hf3 := F.out.k2.frozen 3
            have hf4 := F.out.k2.frozen 4
            go_simp
            refine set_c5 B1.out (F := F.out) ?_
            intro W9 F2
            have FE := Lib.hid F2
            clear F2 F ha0 ha1 ha2 ha3 ha4 hf0 hf1 hf2 hf3 hf4
            refine hK.out _ _ (⟨FE.out.k6.cell 0, FE.out.k6.cell 1, FE.out.k6.cell 2, FE.out.k6.cell 3, FE.out.k6.cell 4⟩) (fun hHeld => ?_)
            clear hK K
            (try simp only [Act.put, List.setIfInBounds_toArray, List.set_cons_zero, List.set_cons_succ])
            refine wpAnyH_take (i := 7) (oi := ?oic7_8) (v := ?vc7_8) ?hic7_8 (by kernel_rfl) (by kernel_rfl) (by kernel_rfl) ?hQc7_8 ?hyc7_8 (by assumption) ?hrc7_8
            case hic7_8 => (simp only [List.getElem?_toArray, List.getElem?_cons_succ, List.getElem?_cons_zero]; rfl)
            case hQc7_8 => exact fun _ _ _ h => h
            case hyc7_8 => (refine Or.inl ⟨by rfl, ?_⟩; intro w hSw; (try dsimp only at hSw); (go_simp <;> with_reducible rfl))
            (try simp only [Act.put, List.setIfInBounds_toArray, List.set_cons_zero, List.set_cons_succ])
            refine wpAnyH_take (i := 8) (oi := ?oic8_9) (v := ?vc8_9) ?hic8_9 (by kernel_rfl) (by kernel_rfl) (by kernel_rfl) ?hQc8_9 ?hyc8_9 (by assumption) ?hrc8_9
            case hic8_9 => (simp only [List.getElem?_toArray, List.getElem?_cons_succ, List.getElem?_cons_zero]; rfl)
            case hQc8_9 => exact fun _ _ _ h => h
            case hyc8_9 => (refine Or.inl ⟨by rfl, ?_⟩; intro w hSw; (try dsimp only at hSw); (go_simp <;> with_reducible rfl))
            (try simp only [Act.put, List.setIfInBounds_toArray, List.set_cons_zero, List.set_cons_succ])
            refine wpAnyH_done (by kernel_rfl) ?_ _
            go_wp2
            exact bodyPost_ret (v := .tuple #[.agg #[.int .i64 s, .int .i64 x, .int .i64 y, .slice (some ⟨g, 0, none⟩) n c, .slice (some ⟨q, 0, none⟩) n d], .int .i64 u, .int .i64 v]) (by simp only [results, Try.results16, Array.size]; simp [go_sem, FE.out.k2.cell]) rfl ⟨s, x, y, u, v, g, q, n, c, d, cs, ds, rfl, FE.out.rg, FE.out.rq, hn30, hH ▸ FE.out.gr⟩
          case hnc6_7 =>
            exact AllReadyH.nil
        case hnc5_6 =>
          exact AllReadyH.nil
      case hnc3_5 =>
        exact AllReadyH.nil
    case hnc2_4 =>
      exact AllReadyH.nil
  · have htb : (t == 0) = false := by simpa using ht
    clear ht
    go_upto_region 5 with (fail)
    replace F := Lib.hid F.out.drew
    refine wp_region_held_drew (S := fun w' => w'.cell? ⟨K, 0, none⟩ = some (.int .i64 s) ∧ w'.cell? ⟨K, 1, none⟩ = some (.int .i64 x) ∧ w'.cell? ⟨K, 2, none⟩ = some (.int .i64 y) ∧ w'.cell? ⟨K, 3, none⟩ = some (.slice (some ⟨g, 0, none⟩) n c) ∧ w'.cell? ⟨K, 4, none⟩ = some (.slice (some ⟨q, 0, none⟩) n d)) (by kernel_rfl) (⟨F.out.k6.cell 0, F.out.k6.cell 1, F.out.k6.cell 2, F.out.k6.cell 3, F.out.k6.cell 4⟩) (fun hHeld => ?_)
    refine wpAnyH_take (i := 0) (oi := ?oid0_1) (v := ?vd0_1) ?hid0_1 (by kernel_rfl) (by kernel_rfl) (by kernel_rfl) ?hQd0_1 ?hyd0_1 (by assumption) ?hrd0_1
    case hid0_1 => (simp only [List.getElem?_toArray, List.getElem?_cons_succ, List.getElem?_cons_zero]; rfl)
    case hQd0_1 => exact fun _ _ _ h => h
    case hyd0_1 => (refine Or.inl ⟨by rfl, ?_⟩; intro w hSw; (try dsimp only at hSw); (go_simp <;> with_reducible rfl))
    (try simp only [Act.put, List.setIfInBounds_toArray, List.set_cons_zero, List.set_cons_succ])
    refine wpAnyH_take (i := 1) (oi := ?oid1_2) (v := ?vd1_2) ?hid1_2 (by kernel_rfl) (by kernel_rfl) (by kernel_rfl) ?hQd1_2 ?hyd1_2 (by assumption) ?hrd1_2
    case hid1_2 => (simp only [List.getElem?_toArray, List.getElem?_cons_succ, List.getElem?_cons_zero]; rfl)
    case hQd1_2 => exact fun _ _ _ h => h
    case hyd1_2 => (refine Or.inl ⟨by rfl, ?_⟩; intro w hSw; (try dsimp only at hSw); (go_simp <;> with_reducible rfl))
    (try simp only [Act.put, List.setIfInBounds_toArray, List.set_cons_zero, List.set_cons_succ])
    refine wpAnyH_take (i := 3) (oi := ?oid3_3) (v := ?vd3_3) ?hid3_3 (by kernel_rfl) (by kernel_rfl) (by kernel_rfl) ?hQd3_3 ?hyd3_3 (by assumption) ?hrd3_3
    case hid3_3 => (simp only [List.getElem?_toArray, List.getElem?_cons_succ, List.getElem?_cons_zero]; rfl)
    case hQd3_3 => exact fun _ _ _ h => h
    case hyd3_3 => (refine Or.inl ⟨by rfl, ?_⟩; intro w hSw; (try dsimp only at hSw); (go_simp <;> with_reducible rfl))
    (try simp only [Act.put, List.setIfInBounds_toArray, List.set_cons_zero, List.set_cons_succ])
    refine wpAnyH_ready (rs := [2]) (by kernel_rfl) (by simp) ?_
    refine AllReadyH.cons (o := ?oid2_4) ?hid2_4 ?had2_4 ?hnd2_4
    case hid2_4 => (simp only [List.getElem?_toArray, List.getElem?_cons_succ, List.getElem?_cons_zero]; rfl)
    case had2_4 =>
      intro K hK
      go_simp
      go_at_call 45
      refine (l01Next_any _ _ _ F.out.hs (by omega)).mono ?_
      rintro e wNu ⟨u, rfl, -, hs, hg⟩
      replace F := Lib.hid (F.out.draw hs hg)
      clear hs hg
      refine hK.out _ _ (⟨F.out.k6.cell 0, F.out.k6.cell 1, F.out.k6.cell 2, F.out.k6.cell 3, F.out.k6.cell 4⟩) (fun hHeld => ?_)
      clear hK K
      (try simp only [Act.put, List.setIfInBounds_toArray, List.set_cons_zero, List.set_cons_succ])
      refine wpAnyH_ready (rs := [4]) (by kernel_rfl) (by simp) ?_
      refine AllReadyH.cons (o := ?oid4_5) ?hid4_5 ?had4_5 ?hnd4_5
      case hid4_5 => (simp only [List.getElem?_toArray, List.getElem?_cons_succ, List.getElem?_cons_zero]; rfl)
      case had4_5 =>
        intro K hK
        go_simp
        go_at_call 45
        refine (l01Next_any _ _ _ F.out.hs (by omega)).mono ?_
        rintro e wNv ⟨v, rfl, -, hs, hg⟩
        replace F := Lib.hid (F.out.draw hs hg)
        clear hs hg
        refine hK.out _ _ (⟨F.out.k6.cell 0, F.out.k6.cell 1, F.out.k6.cell 2, F.out.k6.cell 3, F.out.k6.cell 4⟩) (fun hHeld => ?_)
        clear hK K
        (try simp only [Act.put, List.setIfInBounds_toArray, List.set_cons_zero, List.set_cons_succ])
        refine wpAnyH_ready (rs := [5]) (by kernel_rfl) (by simp) ?_
        refine AllReadyH.cons (o := ?oid5_6) ?hid5_6 ?had5_6 ?hnd5_6
        case hid5_6 => (simp only [List.getElem?_toArray, List.getElem?_cons_succ, List.getElem?_cons_zero]; rfl)
        case had5_6 =>
          intro K hK
          have ha0 := F.out.k2.cell 0
          have ha1 := F.out.k2.cell 1
          have ha2 := F.out.k2.cell 2
          have ha3 := F.out.k2.cell 3
          have ha4 := F.out.k2.cell 4
          have hf0 := F.out.k2.frozen 0
          have hf1 := F.out.k2.frozen 1
          have hf2 := F.out.k2.frozen 2
          have hf3 := F.out.k2.frozen 3
          have hf4 := F.out.k2.frozen 4
          go_simp
          refine set_c5 B1.out (F := F.out) ?_
          intro W9 F2
          have FE := Lib.hid F2
          clear F2 F ha0 ha1 ha2 ha3 ha4 hf0 hf1 hf2 hf3 hf4
          refine hK.out _ _ (⟨FE.out.k6.cell 0, FE.out.k6.cell 1, FE.out.k6.cell 2, FE.out.k6.cell 3, FE.out.k6.cell 4⟩) (fun hHeld => ?_)
          clear hK K
          (try simp only [Act.put, List.setIfInBounds_toArray, List.set_cons_zero, List.set_cons_succ])
          refine wpAnyH_take (i := 6) (oi := ?oid6_7) (v := ?vd6_7) ?hid6_7 (by kernel_rfl) (by kernel_rfl) (by kernel_rfl) ?hQd6_7 ?hyd6_7 (by assumption) ?hrd6_7
          case hid6_7 => (simp only [List.getElem?_toArray, List.getElem?_cons_succ, List.getElem?_cons_zero]; rfl)
          case hQd6_7 => exact fun _ _ _ h => h
          case hyd6_7 => (refine Or.inl ⟨by rfl, ?_⟩; intro w hSw; (try dsimp only at hSw); (go_simp <;> with_reducible rfl))
          (try simp only [Act.put, List.setIfInBounds_toArray, List.set_cons_zero, List.set_cons_succ])
          refine wpAnyH_take (i := 7) (oi := ?oid7_8) (v := ?vd7_8) ?hid7_8 (by kernel_rfl) (by kernel_rfl) (by kernel_rfl) ?hQd7_8 ?hyd7_8 (by assumption) ?hrd7_8
          case hid7_8 => (simp only [List.getElem?_toArray, List.getElem?_cons_succ, List.getElem?_cons_zero]; rfl)
          case hQd7_8 => exact fun _ _ _ h => h
          case hyd7_8 => (refine Or.inl ⟨by rfl, ?_⟩; intro w hSw; (try dsimp only at hSw); (go_simp <;> with_reducible rfl))
          (try simp only [Act.put, List.setIfInBounds_toArray, List.set_cons_zero, List.set_cons_succ])
          refine wpAnyH_done (by kernel_rfl) ?_ _
          go_wp2
          exact bodyPost_ret (v := .tuple #[.agg #[.int .i64 s, .int .i64 x, .int .i64 y, .slice (some ⟨g, 0, none⟩) n c, .slice (some ⟨q, 0, none⟩) n d], .int .i64 u, .int .i64 v]) (by simp only [results, Try.results16, Array.size]; simp [go_sem, FE.out.k2.cell]) rfl ⟨s, x, y, u, v, g, q, n, c, d, cs, ds, rfl, FE.out.rg, FE.out.rq, hn30, hH ▸ FE.out.gr⟩
        case hnd5_6 =>
          exact AllReadyH.nil
      case hnd4_5 =>
        exact AllReadyH.nil
    case hnd2_4 =>
      exact AllReadyH.nil
end Go.Proofs.Ytciicolknphcnaa
