/- A grid that is drawn, whatever the source. -/
import Derived.Test.YtciicolknphcnaaGridF
import Derived.Test.YtciicolknphcnaaPGrids
import Derived.Test.YtciicolknphcnaaDrawGrid
import Derived.Deep.CutBlock
import Derived.Great.BuildSlice
namespace Go.Proofs.Ytciicolknphcnaa
open Go.RowKit
set_option maxRecDepth 100000
set_option linter.unusedVariables false
set_option linter.unusedSimpArgs false
set_option linter.unusedVariables false

/-- A literal of numbers at a region's step. -/
theorem step_lit {P : Program} {w : World} {ops : Array Oper} {o : Oper} {a : Act} {K : Act → World → Prop} {Q : Exit → Act → World → Prop} {F : Prop} (hgd : o.guard = none) (t e : TypeId) (len : Nat) (parts : Array (Nat × Operand)) (zs : List Int) (ho : o.op = .buildSlice t len parts)
    (hu : P.underlying t = some (.slice e)) (hsz : (P.info? e).map (·.size) = some 1) (hz : ((P.info? e).bind (·.zero)).isSome = true) (hlen : len = zs.length) (hpos : 0 < len) (hsmall : len ≤ 2 ^ 24) (hparts : parts.toList = (zs.zipIdx 0).map fun x => (x.2, Operand.const (Value.int .i64 x.1)))
    (h : K (a.put o.dst (.slice (some ⟨w.heap.size, 0, none⟩) len len)) (w.alloc (.cells (zs.map (Value.int .i64)).toArray e))) : if Region.wanted o (yielded ops a.tmps) = true then Oper.wp P o a w K Q else F := by
  rw [if_pos (by simp [Region.wanted, hgd])]
  cases hie : P.info? e with
  | none => simp [hie] at hsz
  | some ie =>
    simp only [hie, Option.map_some, Option.some.injEq, Option.bind_some] at hsz hz
    obtain ⟨z, hzz⟩ := Option.isSome_iff_exists.1 hz
    refine wp_buildSlice t e len parts ho _ ie z hu hie hzz (by rw [hsz]; omega) (by rw [hsz]; omega) ?_ h
    rw [parts_eval a parts .i64 zs hparts, hsz]
    exact Great.fill_flat _ _ (fun v hv => by obtain ⟨n, _, rfl⟩ := List.mem_map.1 hv; rfl) (by simp [hlen])

/-- What the draw keeps: the source, the result's box H, the grid's box G and its two rows g, q. -/
structure DSt (w wr : World) (p H G g q n c d : Nat) (v4 : Array Value) (cs : List Int) (ds : List (Int × Int)) : Prop where
  hs : SrcOk wr p
  gr : w.grownBy wr (some p)
  k2 : Blk wr H 27 #[.int .i64 0, .int .i64 0, .int .i64 0, .slice none 0 0, .slice none 0 0]
  k4 : Blk wr G 27 v4
  oc : Sol wr 2 1 g n c (ints cs)
  od : Sol wr 49 2 q n d (prs ds)
  st : p < H ∧ w.heap.size ≤ H ∧ H < G ∧ H < g ∧ H < q ∧ G ≠ g ∧ G ≠ q ∧ g ≠ q
section
variable {w wr wr' : World} {p H G g q n c d : Nat} {v4 : Array Value} {cs : List Int} {ds : List (Int × Int)}
theorem DSt.draw (h : DSt w wr p H G g q n c d v4 cs ds) (hs : SrcOk wr' p) (hg : wr.grownBy wr' (some p)) : DSt w wr' p H G g q n c d v4 cs ds := by
  obtain ⟨s1, s2, s3, s4, s5, s6, s7, s8⟩ := h.st
  exact ⟨hs, h.gr.trans hg, h.k2.grown hg (fun e => by injection e with e; omega), h.k4.grown hg (fun e => by injection e with e; omega), h.oc.apart hg (by omega), h.od.apart hg (by omega), h.st⟩
theorem DSt.setG (h : DSt w wr p H G g q n c d v4 cs ds) (i : Nat) (u : Value) : DSt w (wr.setCell ⟨G, i, none⟩ u) p H G g q n c d (v4.setIfInBounds i u) cs ds := by
  obtain ⟨s1, s2, s3, s4, s5, s6, s7, s8⟩ := h.st
  exact ⟨h.hs.keep (fun b hb => Below.heap_setCell _ _ _ _ (by simp; omega)), grown_below h.gr ((Below.refl w.heap.size wr).setCell (p := ⟨G, i, none⟩) (by simp; omega) u), h.k2.far (by simp; omega) u, h.k4.set_ i u, h.oc.setFar (by simp; omega) u, h.od.setFar (by simp; omega) u, h.st⟩
theorem DSt.below (h : DSt w wr p H G g q n c d v4 cs ds) (hb : Below wr.heap.size wr wr') : DSt w wr' p H G g q n c d v4 cs ds :=
  ⟨h.hs.below hb h.hs.lt, grown_below h.gr (hb.mono h.gr.size), h.k2.belowSelf hb, h.k4.belowSelf hb, Own.below h.oc hb (.inr (Nat.le_refl _)), Own.below h.od hb (.inr (Nat.le_refl _)), h.st⟩
theorem DSt.drew (h : DSt w wr p H G g q n c d v4 cs ds) : DSt w wr.drew p H G g q n c d v4 cs ds := h.below (Below.refl _ _).drew
theorem DSt.alloc (h : DSt w wr p H G g q n c d v4 cs ds) (o : Obj) : DSt w (wr.alloc o) p H G g q n c d v4 cs ds := h.below ((Below.refl _ _).alloc (Nat.le_refl _) o)
theorem DSt.setC (h : DSt w wr p H G g q n c d v4 cs ds) (i : Nat) (u : Int) : DSt w (wr.setCell ⟨g, i, none⟩ (.int .i64 u)) p H G g q n c d v4 (cs.set i u) ds := by
  obtain ⟨s1, s2, s3, s4, s5, s6, s7, s8⟩ := h.st
  have st := h.oc.stored i (.int .i64 u)
  rw [show (ints cs).set i (.int .i64 u) = ints (cs.set i u) by simp [ints, List.map_set]] at st
  exact ⟨h.hs.keep (fun b hb => Below.heap_setCell _ _ _ _ (by simp; omega)), grown_below h.gr ((Below.refl w.heap.size wr).setCell (p := ⟨g, i, none⟩) (by simp; omega) _), h.k2.far (by simp; omega) _, h.k4.far (by simp; omega) _, st.1, h.od.setFar (by simp; omega) _, h.st⟩
theorem DSt.setD (h : DSt w wr p H G g q n c d v4 cs ds) (i : Nat) (u v : Int) : DSt w ((wr.setCell ⟨q, i * 2, none⟩ (.int .i64 u)).setCell ⟨q, i * 2 + 1, none⟩ (.int .i64 v)) p H G g q n c d v4 cs (ds.set i (u, v)) := by
  obtain ⟨s1, s2, s3, s4, s5, s6, s7, s8⟩ := h.st
  have st := h.od.stored (i * 2) (.int .i64 u)
  have st2 := st.1.stored (i * 2 + 1) (.int .i64 v)
  rw [prs_set] at st2
  exact ⟨h.hs.keep (fun b hb => (Below.heap_setCell _ _ _ _ (by simp; omega)).trans (Below.heap_setCell _ _ _ _ (by simp; omega))), grown_below h.gr (((Below.refl w.heap.size wr).setCell (p := ⟨q, i * 2, none⟩) (by simp; omega) _).setCell (p := ⟨q, i * 2 + 1, none⟩) (by simp; omega) _), (h.k2.far (by simp; omega) _).far (by simp; omega) _, (h.k4.far (by simp; omega) _).far (by simp; omega) _, (h.oc.setFar (by simp; omega) _).setFar (by simp; omega) _, st2.1, h.st⟩
theorem _root_.Go.Proofs.Ytciicolknphcnaa.Blk.row1 {w : World} {b E n : Nat} {vs : Array Value} (h : Blk w b E vs) (hn : vs.toList.length = n) : Row w 1 (some ⟨b, 0, none⟩) n vs.toList :=
  ⟨by omega, fun _ => ⟨b, 0, rfl, fun j u hu => by rw [Nat.zero_add, h.cell]; simpa using hu⟩⟩
/-- At a region's step: the world behind it by a name of its own. -/
theorem lit_d {K : Act → World → Prop} {f : Act} {W : World} {vs : Array Value} {E : Nat} (F : DSt w W p H G g q n c d v4 cs ds) (h : ∀ W', DSt w W' p H G g q n c d v4 cs ds → Below W.heap.size W W' → Blk W' W.heap.size E vs → p < W.heap.size → K f W') : K f (W.alloc (.cells vs E)) :=
  h _ (F.alloc _) ((Below.refl _ _).alloc (Nat.le_refl _) _) (Blk.new W E vs) F.hs.lt
theorem lit_dd {K : Act → World → Prop} {f : Act} {W : World} {vs : Array Value} {E : Nat} (F : DSt w W.drew p H G g q n c d v4 cs ds) (h : ∀ W', DSt w W' p H G g q n c d v4 cs ds → Below W.heap.size W W' → Blk W' W.heap.size E vs → p < W.heap.size → K f W') : K f (W.alloc (.cells vs E)).drew :=
  h _ (DSt.drew (DSt.alloc (wr := W) ⟨F.hs, ⟨F.gr.os, F.gr.tape, F.gr.output, F.gr.size, F.gr.block⟩, F.k2, F.k4, F.oc, F.od, F.st⟩ _)) (((Below.refl W.heap.size W).alloc (Nat.le_refl _) _).drew) ((Blk.new W E vs).drew) F.hs.lt
theorem set_c {K : Act → World → Prop} {f : Act} {W : World} {i : Nat} {u : Int} (F : DSt w W p H G g q n c d v4 cs ds) (h : ∀ W', DSt w W' p H G g q n c d v4 (cs.set i u) ds → K f W') : K f (W.setCell ⟨g, i, none⟩ (.int .i64 u)) := h _ (F.setC i u)
theorem set_d0 {K : Act → World → Prop} {f : Act} {W : World} {u v : Int} (F : DSt w W p H G g q n c d v4 cs ds) (h : ∀ W', DSt w W' p H G g q n c d v4 cs (ds.set 0 (u, v)) → K f W') : K f ((W.setCell ⟨q, 0, none⟩ (.int .i64 u)).setCell ⟨q, 1, none⟩ (.int .i64 v)) := h _ (F.setD 0 u v)
end

def GDraw (p : Nat) (w : World) (e : Ending) (w' : World) : Prop := ∃ (s x y : Int) (g q n c d : Nat) (cs : List Int) (ds : List (Int × Int)), e = .returned (.agg #[.int .i64 s, .int .i64 x, .int .i64 y, .slice (some ⟨g, 0, none⟩) n c, .slice (some ⟨q, 0, none⟩) n d]) ∧ Row w' 1 (some ⟨g, 0, none⟩) n (ints cs) ∧ Row w' 2 (some ⟨q, 0, none⟩) n (prs ds) ∧ n ≤ 30 ∧ w.heap.size ≤ g ∧ w.heap.size ≤ q ∧ SrcOk w' p ∧ w.grownBy w' (some p)

set_option maxHeartbeats 12800000 in
theorem l22Draw_any (p : Nat) (w : World) (h : SrcOk w p) :
    Calls Try.prog 48 #[.pointer (some ⟨p, 0, none⟩)] w (GDraw p w) := by
  have hpw := h.lt
  obtain ⟨H, hH⟩ : ∃ H, w.heap.size = H := ⟨_, rfl⟩
  obtain ⟨wa, hwa⟩ : ∃ wa, w.alloc (.cells #[.int .i64 0, .int .i64 0, .int .i64 0, .slice none 0 0, .slice none 0 0] 27) = wa := ⟨_, rfl⟩
  have K2 := Lib.hid (show Blk wa H 27 #[.int .i64 0, .int .i64 0, .int .i64 0, .slice none 0 0, .slice none 0 0] from hwa ▸ Blk.new' w _ _ hH.symm)
  have HS := Lib.hid (show SrcOk wa p from hwa ▸ h.alloc _)
  have G0 := Lib.hid (show w.grownBy wa (some p) from hwa ▸ grown_alloc (World.grownBy.refl w (some p)) _)
  have hz : wa.heap.size = H + 1 := by subst hwa; simp [hH]
  clear h
  go_enter Try.func48, Try.ntmps48
  go_wp2_with fail
  go_at_call 47
  refine (l21Draw_any _ _ HS.out).mono ?_
  intro e w1 hd
  obtain ⟨aL, qL, cL, ys, rfl, O, hqL, hs, hg⟩ := hd
  have rL := O.row
  have hz1 := hg.size
  replace K2 := Lib.hid (K2.out.grown hg (fun e => by injection e with e; omega))
  replace G0 := Lib.hid (G0.out.trans hg)
  replace HS := Lib.hid hs
  clear hs hg hwa
  go_wp2_with fail
  go_at_call 25
  refine (areSoundings_spec _ _ _ _ _ rL (by omega)).mono ?_
  rintro e w2 ⟨rfl, hb⟩
  have hz2 := hb.size
  replace K2 := Lib.hid (K2.out.belowSelf hb)
  replace G0 := Lib.hid (grown_below G0.out (hb.mono G0.out.size))
  replace HS := Lib.hid (HS.out.below hb HS.out.lt)
  replace O := (O.below hb (.inr (Nat.le_refl _))).leave
  replace O := O.mono (lo' := H) (by omega) (Nat.le_refl _)
  clear hb rL
  go_upto_if 10 with (fail)
  go_cut [3] (fun v wx => ∃ (a3 : Option Addr) (q3 c3 : Nat) (zs : List I4), v = .slice a3 q3 c3 ∧ Own wx H wx.heap.size 47 4 a3 q3 c3 (frs zs) ∧ q3 ≤ 201 ∧ sndsOk zs = true ∧ Hid (Blk wx H 27 #[.int .i64 0, .int .i64 0, .int .i64 0, .slice none 0 0, .slice none 0 0]) ∧ Hid (SrcOk wx p) ∧ Hid (w.grownBy wx (some p)) ∧ H < wx.heap.size)
  case first => as_aux_lemma =>
    cases hok : sndsOk ys
    · refine wp_cond_true (by rfl) ?_
      go_wp2_with fail
      go_meet
      exact ⟨none, 0, 0, [], rfl, Own.nil_ _ _ _ _ _, by omega, rfl, K2, HS, G0, by omega⟩
    · refine wp_cond_false (by rfl) ?_
      go_wp2_with fail
      go_meet
      exact ⟨_, _, _, ys, rfl, O, hqL, hok, K2, HS, G0, by omega⟩
  case rest => as_aux_lemma =>
    clear K2 HS G0 O hz1 hz2 hqL
    obtain ⟨aL2, qL2, cL2, zs, rfl, OL, hqL, hsn, K2, HS, G0, hHz⟩ := hcut
    obtain ⟨w3, rfl⟩ : ∃ w3 : World, w3 = wc := ⟨_, rfl⟩
    have HSN := Lib.hid hsn
    clear hsn
    have hpH : p < H := by omega
    go_wp2_with fail
    go_at_call 45
    refine (l01Next_any _ _ _ HS.out (by omega)).mono ?_
    rintro e w4 ⟨r1, rfl, ⟨hr10, hr11, -⟩, hs, hg⟩
    have hr19 := hr11 (by omega)
    replace K2 := Lib.hid (K2.out.grown hg (fun e => by injection e with e; omega))
    replace G0 := Lib.hid (G0.out.trans hg)
    replace HS := Lib.hid hs
    replace OL := (own_far OL hpH hg).leave
    have hzr1 := hg.size
    clear hr11 hs hg
    go_wp2_with fail
    go_at_call 45
    refine (l01Next_any _ _ _ HS.out (by omega)).mono ?_
    rintro e w5 ⟨r2, rfl, ⟨hr20, hr21, -⟩, hs, hg⟩
    have hr29 := hr21 (by omega)
    replace K2 := Lib.hid (K2.out.grown hg (fun e => by injection e with e; omega))
    replace G0 := Lib.hid (G0.out.trans hg)
    replace HS := Lib.hid hs
    replace OL := (own_far OL hpH hg).leave
    have hzr2 := hg.size
    clear hr21 hs hg
    go_wp2_with fail
    go_at_call 45
    refine (l01Next_any _ _ _ HS.out (by omega)).mono ?_
    rintro e w6 ⟨r3, rfl, ⟨hr30, hr31, -⟩, hs, hg⟩
    have hr39 := hr31 (by omega)
    replace K2 := Lib.hid (K2.out.grown hg (fun e => by injection e with e; omega))
    replace G0 := Lib.hid (G0.out.trans hg)
    replace HS := Lib.hid hs
    replace OL := (own_far OL hpH hg).leave
    have hzr3 := hg.size
    clear hr31 hs hg
    obtain ⟨s, hs⟩ : ∃ s, 8 + r1 = s := ⟨_, rfl⟩
    obtain ⟨x, hx⟩ : ∃ x, 1 + r2 = x := ⟨_, rfl⟩
    obtain ⟨y, hy⟩ : ∃ y, 1 + r3 = y := ⟨_, rfl⟩
    have hx1 : 1 ≤ x ∧ x ≤ 6 := by omega
    have hy1 : 1 ≤ y ∧ y ≤ 5 := by omega
    have hs1 : 1 ≤ s ∧ s ≤ 30 := by omega
    have hsh : shapeOk s x y = true := by
      simp only [shapeOk, inR, Bool.and_eq_true, decide_eq_true_eq]
      omega
    have hgs : gridSnd s x y zs = ((s, x, y), gridL s x y zs, 0) := by simp [gridSnd, HSN.out, hsh]
    have hlc : ∃ N : Nat, (gridL s x y zs).1.length = N ∧ 0 < N ∧ N ≤ 30 := by
      have GF := grid_facts HSN.out hsh
      obtain ⟨X, rfl⟩ := Int.eq_ofNat_of_zero_le (show 0 ≤ x by omega)
      obtain ⟨Y, rfl⟩ := Int.eq_ofNat_of_zero_le (show 0 ≤ y by omega)
      have hXY : X * Y ≤ 6 * 5 := Nat.mul_le_mul (by omega) (by omega)
      have hXY0 : 0 < X * Y := Nat.mul_pos (by omega) (by omega)
      refine ⟨_, GF.lc, ?_, ?_⟩
      · rw [← Int.natCast_mul, Int.toNat_natCast]; exact hXY0
      · rw [← Int.natCast_mul, Int.toNat_natCast]; exact hXY
    have HOK := Lib.hid ((grid_facts HSN.out hsh).ok hsh (sndsOk_len HSN.out rfl))
    have HGS := Lib.hid hgs
    clear hgs hsh
    go_wp2_with fail
    go_at_call 6
    refine (gridSnd_spec _ _ _ _ _ _ zs _ OL.row (by omega)).mono ?_
    intro e w7 hd
    obtain ⟨a, b, g, q, n, rfl, hgq, hg0, hq0, hn, hc, hd, hb⟩ := hd
    rw [HGS.out] at hc hd ⊢
    obtain ⟨N, hlc, hN0, hN30⟩ := hlc
    have hcn : n = N := by have h1 : (gridL s x y zs).1.length = n := hc.row.len; omega
    have hn0 : 0 < n := by omega
    have hn30 : n ≤ 30 := by omega
    obtain ⟨g', rfl, e1, e2, e3⟩ := hc.head hn0
    obtain rfl : g' = g := by omega
    obtain ⟨q', rfl, e4, e5, e6⟩ := hd.head hn0
    obtain rfl : q' = q := by omega
    clear hs hx hy hlc hcn HGS HSN e1 e2 e4 e5 hr10 hr19 hr20 hr29 hr30 hr39
    obtain ⟨cs, hcs⟩ : ∃ cs, (gridL s x y zs).1 = cs := ⟨_, rfl⟩
    obtain ⟨ds, hds⟩ : ∃ ds, (gridL s x y zs).2 = ds := ⟨_, rfl⟩
    obtain ⟨G, hG⟩ : ∃ G, w7.heap.size = G := ⟨_, rfl⟩
    obtain ⟨w8, hw8⟩ : ∃ w8, w7.alloc (.cells #[.int .i64 s, .int .i64 x, .int .i64 y, .slice (some ⟨g', 0, none⟩) n n, .slice (some ⟨q', 0, none⟩) n n] 27) = w8 := ⟨_, rfl⟩
    rw [hcs, hds] at HOK
    have hc' : Own w7 g' (g' + 1) 2 1 (some ⟨g', 0, none⟩) n n (ints cs) := hcs ▸ hc
    have hd' : Own w7 q' (q' + 1) 49 2 (some ⟨q', 0, none⟩) n n (prs ds) := hds ▸ hd
    have hzb := hb.size
    have F := Lib.hid (show DSt w w8 p H G g' q' n n n #[.int .i64 s, .int .i64 x, .int .i64 y, .slice (some ⟨g', 0, none⟩) n n, .slice (some ⟨q', 0, none⟩) n n] cs ds from
      ⟨hw8 ▸ (HS.out.below hb HS.out.lt).alloc _, hw8 ▸ grown_alloc (grown_below G0.out (hb.mono G0.out.size)) _, hw8 ▸ (K2.out.belowSelf hb).alloc _, hw8 ▸ Blk.new' _ _ _ hG.symm, hw8 ▸ Own.alloc hc' _, hw8 ▸ Own.alloc hd' _, by omega⟩)
    clear hc hd hc' hd' hcs hds hb K2 HS G0 OL
    go_wp2_with fail
    go_at_call 45
    refine (l01Next_any _ _ _ F.out.hs (by omega)).mono ?_
    rintro e w9 ⟨t, rfl, ⟨ht0, ht1, -⟩, hs, hg⟩
    have ht9 := ht1 (by omega)
    replace F := Lib.hid (F.out.draw hs hg)
    have hGz := F.out.k4.lt
    clear ht1 hs hg hw8
    go_upto_if 27 with (fail)
    go_cut [5] (fun _ wx => ∃ (g q c d : Nat) (cs : List Int) (ds : List (Int × Int)), Hid (DSt w wx p H G g q n c d #[.int .i64 s, .int .i64 x, .int .i64 y, .slice (some ⟨g, 0, none⟩) n c, .slice (some ⟨q, 0, none⟩) n d] cs ds))
    case first => as_aux_lemma =>
      by_cases ht : t = 0
      · subst ht
        refine wp_cond_true (by rfl) ?_
        have u0 : w9.cell? ⟨G, 0, none⟩ = some (.int .i64 s) := F.out.k4.cell 0
        have u1 : w9.cell? ⟨G, 1, none⟩ = some (.int .i64 x) := F.out.k4.cell 1
        have u2 : w9.cell? ⟨G, 2, none⟩ = some (.int .i64 y) := F.out.k4.cell 2
        have u3 : w9.cell? ⟨G, 3, none⟩ = some (.slice (some ⟨g', 0, none⟩) n n) := F.out.k4.cell 3
        have u4 : w9.cell? ⟨G, 4, none⟩ = some (.slice (some ⟨q', 0, none⟩) n n) := F.out.k4.cell 4
        go_wp2_with fail
        go_at_call 64
        refine (fillGaps_any _ _ _ _ _ _ _ _ _ _ _ F.out.oc.row F.out.od.row hn30 hn0 (by omega) (by omega) HOK.out).mono ?_
        intro e w10 hd
        obtain ⟨g2, q2, c2, d2, cs2, ds2, rfl, oc2, od2, hgq2, hg2, hq2, hb⟩ := hd
        have hz10 := hb.size
        have F1 := Lib.hid (F.out.below hb)
        have hk4 := F1.out.k4
        have hst := F.out.st
        have f0 := F1.out.k4.frozen 0
        have f1 := F1.out.k4.frozen 1
        have f2 := F1.out.k4.frozen 2
        have f3 := F1.out.k4.frozen 3
        have f4 := F1.out.k4.frozen 4
        have x_0 : w10.cell? ⟨G, 0, none⟩ = some (.int .i64 s) := F1.out.k4.cell 0
        have x_1 : w10.cell? ⟨G, 1, none⟩ = some (.int .i64 x) := F1.out.k4.cell 1
        have x_2 : w10.cell? ⟨G, 2, none⟩ = some (.int .i64 y) := F1.out.k4.cell 2
        have x_3 : w10.cell? ⟨G, 3, none⟩ = some (.slice (some ⟨g', 0, none⟩) n n) := F1.out.k4.cell 3
        have x_4 : w10.cell? ⟨G, 4, none⟩ = some (.slice (some ⟨q', 0, none⟩) n n) := F1.out.k4.cell 4
        obtain ⟨w11, hw11⟩ : ∃ w11, ((((w10.setCell ⟨G, 0, none⟩ (.int .i64 s)).setCell ⟨G, 1, none⟩ (.int .i64 x)).setCell ⟨G, 2, none⟩ (.int .i64 y)).setCell ⟨G, 3, none⟩ (.slice (some ⟨g2, 0, none⟩) n c2)).setCell ⟨G, 4, none⟩ (.slice (some ⟨q2, 0, none⟩) n d2) = w11 := ⟨_, rfl⟩
        have F2 := Lib.hid (show DSt w w11 p H G g2 q2 n c2 d2 #[.int .i64 s, .int .i64 x, .int .i64 y, .slice (some ⟨g2, 0, none⟩) n c2, .slice (some ⟨q2, 0, none⟩) n d2] cs2 ds2 from by
          have F3 := ((((F1.out.setG 0 (.int .i64 s)).setG 1 (.int .i64 x)).setG 2 (.int .i64 y)).setG 3 (.slice (some ⟨g2, 0, none⟩) n c2)).setG 4 (.slice (some ⟨q2, 0, none⟩) n d2)
          rw [hw11] at F3
          have o1 := own_five (b := G) oc2 (.inl (by omega)) (.int .i64 s) (.int .i64 x) (.int .i64 y) (.slice (some ⟨g2, 0, none⟩) n c2) (.slice (some ⟨q2, 0, none⟩) n d2)
          have o2 := own_five (b := G) od2 (.inl (by omega)) (.int .i64 s) (.int .i64 x) (.int .i64 y) (.slice (some ⟨g2, 0, none⟩) n c2) (.slice (some ⟨q2, 0, none⟩) n d2)
          rw [hw11] at o1 o2
          exact ⟨F3.hs, F3.gr, F3.k2, by simpa using F3.k4, o1, o2, by omega⟩)
        clear F F1 hk4 oc2 od2 hb hst
        go_wp2_with fail
        go_meet
        exact ⟨g2, q2, c2, d2, cs2, ds2, F2⟩
      · have ht0b : (t == 0) = false := by simpa using ht
        refine wp_cond_false (by show Value.bool (t == 0) = _; rw [ht0b]) ?_
        go_wp2_with fail
        go_meet
        exact ⟨g', q', n, n, cs, ds, F⟩
    case rest => as_aux_lemma =>
      clear F
      obtain ⟨g, q, c, d, cs, ds, F⟩ := hcut
      obtain ⟨w10, rfl⟩ : ∃ w10 : World, w10 = wc := ⟨_, rfl⟩
      obtain ⟨st1, st2, st3, st4, st5, st6, st7, st8⟩ := F.out.st
      go_wp2_with fail
      go_at_call 45
      refine (l01Next_any _ _ _ F.out.hs (by omega)).mono ?_
      rintro e w11 ⟨r, rfl, ⟨hr0, hr1, -⟩, hs, hg⟩
      replace F := Lib.hid (F.out.draw hs hg)
      clear hr1 hs hg
      go_upto_block 0 with (fail)
      go_cut [5] (fun _ wx => ∃ (sv xv yv : Int) (cs : List Int) (ds : List (Int × Int)), Hid (DSt w wx p H G g q n c d #[.int .i64 sv, .int .i64 xv, .int .i64 yv, .slice (some ⟨g, 0, none⟩) n c, .slice (some ⟨q, 0, none⟩) n d] cs ds))
      case first => as_aux_lemma =>
        go_upto_if 35 with (fail)
        by_cases h0 : r = 0
        · subst h0
          refine wp_cond_true (by rfl) ?_
          go_wp2_with fail
          go_at_call 46
          refine (l01Pick_any _ _ _ _ [0, 10000, 10001] _ (F.out.hs.alloc _) (by exact Row.lit _ (ints [0, 10000, 10001]) _ _ _ (by simp) (by rfl)) (by omega) (by omega) (fun b off e => by injection e with e; injection e with e _ _; have := F.out.hs.lt; omega)).mono ?_
          rintro e w12 ⟨u, rfl, hx, hs, hg⟩
          replace F := Lib.hid ((F.out.alloc (.cells #[.int .i64 (0), .int .i64 (10000), .int .i64 (10001)] 2)).draw hs hg)
          clear hx hs hg
          have f0 := F.out.k4.frozen 0
          have a0 : w12.cell? ⟨G, 0, none⟩ = some (.int .i64 s) := F.out.k4.cell 0
          replace F := Lib.hid (F.out.setG 0 (.int .i64 u))
          obtain ⟨w13, hw13⟩ : ∃ w13, w12.setCell ⟨G, 0, none⟩ (.int .i64 u) = w13 := ⟨_, rfl⟩
          rw [hw13] at F
          go_wp2_with fail
          go_meet
          exact ⟨u, x, y, cs, ds, F⟩
        · have n0 : (r == 0) = false := by simpa using h0
          clear h0
          refine wp_cond_false (by show Value.bool (r == 0) = _; rw [n0]) ?_
          go_upto_if 41 with (fail)
          by_cases h1 : r = 1
          · subst h1
            refine wp_cond_true (by rfl) ?_
            obtain ⟨e0, he0⟩ : ∃ e0, cs[0]? = some e0 := ⟨_, List.getElem?_eq_getElem (by have := F.out.oc.row.len; omega)⟩
            have HE0 := Lib.hid (ints_get he0)
            clear he0
            go_upto_region 11 with (fail)
            replace F := Lib.hid F.out.drew
            refine wp_region_held_drew (S := fun w' => w'.cell? ⟨G, 3, none⟩ = some (.slice (some ⟨g, 0, none⟩) n c)) (by kernel_rfl) (F.out.k4.cell 3) (fun hHeld => ?_)
            refine wpAnyH_take (i := 0) (oi := ?oic0_1) (v := ?vc0_1) ?hic0_1 (by kernel_rfl) (by kernel_rfl) (by kernel_rfl) ?hQc0_1 ?hyc0_1 (by assumption) ?hrc0_1
            case hic0_1 => (simp only [List.getElem?_toArray, List.getElem?_cons_succ, List.getElem?_cons_zero]; rfl)
            case hQc0_1 => exact fun _ _ _ h => h
            case hyc0_1 => (refine Or.inl ⟨by rfl, ?_⟩; intro w hSw; (try dsimp only at hSw); (go_simp <;> with_reducible rfl))
            (try simp only [Act.put, List.setIfInBounds_toArray, List.set_cons_zero, List.set_cons_succ])
            refine wpAnyH_take (i := 1) (oi := ?oic1_2) (v := ?vc1_2) ?hic1_2 (by kernel_rfl) (by kernel_rfl) (by kernel_rfl) ?hQc1_2 ?hyc1_2 (by assumption) ?hrc1_2
            case hic1_2 => (simp only [List.getElem?_toArray, List.getElem?_cons_succ, List.getElem?_cons_zero]; rfl)
            case hQc1_2 => exact fun _ _ _ h => h
            case hyc1_2 => (refine Or.inl ⟨by rfl, ?_⟩; intro w hSw; (try dsimp only at hSw); (go_simp <;> with_reducible rfl))
            (try simp only [Act.put, List.setIfInBounds_toArray, List.set_cons_zero, List.set_cons_succ])
            refine wpAnyH_take (i := 2) (oi := ?oic2_3) (v := ?vc2_3) ?hic2_3 (by kernel_rfl) (by kernel_rfl) (by kernel_rfl) ?hQc2_3 ?hyc2_3 (by assumption) ?hrc2_3
            case hic2_3 => (simp only [List.getElem?_toArray, List.getElem?_cons_succ, List.getElem?_cons_zero]; rfl)
            case hQc2_3 => exact fun _ _ _ h => h
            case hyc2_3 => (refine Or.inl ⟨by rfl, ?_⟩; intro w hSw; (try dsimp only at hSw); (go_simp <;> with_reducible rfl))
            (try simp only [Act.put, List.setIfInBounds_toArray, List.set_cons_zero, List.set_cons_succ])
            refine wpAnyH_ready (rs := [3]) (by kernel_rfl) (by simp) ?_
            refine AllReadyH.cons (o := ?oic3_4) ?hic3_4 ?hac3_4 ?hnc3_4
            case hic3_4 => (simp only [List.getElem?_toArray, List.getElem?_cons_succ, List.getElem?_cons_zero]; rfl)
            case hac3_4 =>
              intro K hK
              refine step_lit rfl 24 2 5 _ [-2, 0, 1, 1000000000000, 1000000000001] (by rfl) Try.underlying24 (by rfl) (by rfl) rfl (by omega) (by omega) (by rfl) ?_
              refine lit_d (F := F.out) ?_
              intro WA F2 hbW hob hpA
              replace F := Lib.hid F2
              have RA := Lib.hid (show Row _ 1 _ 5 (ints [-2, 0, 1, 1000000000000, 1000000000001]) from hob.row1 rfl)
              clear hob F2
              try (replace RA := Lib.hid (RA.out.below hbW (Nat.le_refl _)))
              try (replace RB := Lib.hid (RB.out.below hbW (Nat.le_refl _)))
              clear hbW
              refine hK.out _ _ (F.out.k4.cell 3) (fun hHeld => ?_)
              clear hK K
              (try simp only [Act.put, List.setIfInBounds_toArray, List.set_cons_zero, List.set_cons_succ])
              refine wpAnyH_ready (rs := [4]) (by kernel_rfl) (by simp) ?_
              refine AllReadyH.cons (o := ?oic4_5) ?hic4_5 ?hac4_5 ?hnc4_5
              case hic4_5 => (simp only [List.getElem?_toArray, List.getElem?_cons_succ, List.getElem?_cons_zero]; rfl)
              case hac4_5 =>
                intro K hK
                go_simp
                go_at_call 46
                refine (l01Pick_any _ _ _ _ [-2, 0, 1, 1000000000000, 1000000000001] _ F.out.hs RA.out (by omega) (by omega) (fun b off e => by injection e with e; injection e with e _ _; have := hpA; omega)).mono ?_
                rintro e wPu ⟨u, rfl, hx, hs, hg⟩
                replace F := Lib.hid (F.out.draw hs hg)
                try (replace RB := Lib.hid (RB.out.apart (by omega) hg (fun b off e e2 => by injection e with e; injection e with e _ _; injection e2 with e2; have := hpB; omega)))
                clear hx hs hg
                refine hK.out _ _ (F.out.k4.cell 3) (fun hHeld => ?_)
                clear hK K
                (try simp only [Act.put, List.setIfInBounds_toArray, List.set_cons_zero, List.set_cons_succ])
                refine wpAnyH_take (i := 5) (oi := ?oic5_6) (v := ?vc5_6) ?hic5_6 (by kernel_rfl) (by kernel_rfl) (by kernel_rfl) ?hQc5_6 ?hyc5_6 (by assumption) ?hrc5_6
                case hic5_6 => (simp only [List.getElem?_toArray, List.getElem?_cons_succ, List.getElem?_cons_zero]; rfl)
                case hQc5_6 => exact fun _ _ _ h => h
                case hyc5_6 => (refine Or.inl ⟨by rfl, ?_⟩; intro w hSw; (try dsimp only at hSw); (go_simp <;> with_reducible rfl))
                (try simp only [Act.put, List.setIfInBounds_toArray, List.set_cons_zero, List.set_cons_succ])
                refine wpAnyH_ready (rs := [6]) (by kernel_rfl) (by simp) ?_
                refine AllReadyH.cons (o := ?oic6_7) ?hic6_7 ?hac6_7 ?hnc6_7
                case hic6_7 => (simp only [List.getElem?_toArray, List.getElem?_cons_succ, List.getElem?_cons_zero]; rfl)
                case hac6_7 =>
                  intro K hK
                  have hfz := F.out.oc.frozenAt 0
                  have hce := (F.out.oc.cellAt 0 (by omega)).trans HE0.out
                  go_simp
                  refine set_c (F := F.out) ?_
                  intro W9 F2
                  replace F := Lib.hid F2
                  clear F2 hfz hce
                  refine hK.out _ _ (F.out.k4.cell 3) (fun hHeld => ?_)
                  clear hK K
                  (try simp only [Act.put, List.setIfInBounds_toArray, List.set_cons_zero, List.set_cons_succ])
                  refine wpAnyH_done (by kernel_rfl) ?_ _
                  go_wp2_with fail
                  go_meet
                  exact ⟨s, x, y, cs.set 0 u, ds, F⟩
                case hnc6_7 =>
                  exact AllReadyH.nil
              case hnc4_5 =>
                exact AllReadyH.nil
            case hnc3_4 =>
              exact AllReadyH.nil
          · have n1 : (r == 1) = false := by simpa using h1
            clear h1
            refine wp_cond_false (by show Value.bool (r == 1) = _; rw [n1]) ?_
            go_upto_if 49 with (fail)
            by_cases h2 : r = 2
            · subst h2
              refine wp_cond_true (by rfl) ?_
              obtain ⟨e0, he0⟩ : ∃ e0, ds[0]? = some e0 := ⟨_, List.getElem?_eq_getElem (by have := F.out.od.row.len2; omega)⟩
              have HE0 := Lib.hid (prs_get he0)
              clear he0
              go_upto_region 13 with (fail)
              replace F := Lib.hid F.out.drew
              refine wp_region_held_drew (S := fun w' => w'.cell? ⟨G, 4, none⟩ = some (.slice (some ⟨q, 0, none⟩) n d)) (by kernel_rfl) (F.out.k4.cell 4) (fun hHeld => ?_)
              refine wpAnyH_take (i := 0) (oi := ?oid0_1) (v := ?vd0_1) ?hid0_1 (by kernel_rfl) (by kernel_rfl) (by kernel_rfl) ?hQd0_1 ?hyd0_1 (by assumption) ?hrd0_1
              case hid0_1 => (simp only [List.getElem?_toArray, List.getElem?_cons_succ, List.getElem?_cons_zero]; rfl)
              case hQd0_1 => exact fun _ _ _ h => h
              case hyd0_1 => (refine Or.inl ⟨by rfl, ?_⟩; intro w hSw; (try dsimp only at hSw); (go_simp <;> with_reducible rfl))
              (try simp only [Act.put, List.setIfInBounds_toArray, List.set_cons_zero, List.set_cons_succ])
              refine wpAnyH_take (i := 1) (oi := ?oid1_2) (v := ?vd1_2) ?hid1_2 (by kernel_rfl) (by kernel_rfl) (by kernel_rfl) ?hQd1_2 ?hyd1_2 (by assumption) ?hrd1_2
              case hid1_2 => (simp only [List.getElem?_toArray, List.getElem?_cons_succ, List.getElem?_cons_zero]; rfl)
              case hQd1_2 => exact fun _ _ _ h => h
              case hyd1_2 => (refine Or.inl ⟨by rfl, ?_⟩; intro w hSw; (try dsimp only at hSw); (go_simp <;> with_reducible rfl))
              (try simp only [Act.put, List.setIfInBounds_toArray, List.set_cons_zero, List.set_cons_succ])
              refine wpAnyH_take (i := 2) (oi := ?oid2_3) (v := ?vd2_3) ?hid2_3 (by kernel_rfl) (by kernel_rfl) (by kernel_rfl) ?hQd2_3 ?hyd2_3 (by assumption) ?hrd2_3
              case hid2_3 => (simp only [List.getElem?_toArray, List.getElem?_cons_succ, List.getElem?_cons_zero]; rfl)
              case hQd2_3 => exact fun _ _ _ h => h
              case hyd2_3 => (refine Or.inl ⟨by rfl, ?_⟩; intro w hSw; (try dsimp only at hSw); (go_simp <;> with_reducible rfl))
              (try simp only [Act.put, List.setIfInBounds_toArray, List.set_cons_zero, List.set_cons_succ])
              refine wpAnyH_take (i := 5) (oi := ?oid5_4) (v := ?vd5_4) ?hid5_4 (by kernel_rfl) (by kernel_rfl) (by kernel_rfl) ?hQd5_4 ?hyd5_4 (by assumption) ?hrd5_4
              case hid5_4 => (simp only [List.getElem?_toArray, List.getElem?_cons_succ, List.getElem?_cons_zero]; rfl)
              case hQd5_4 => exact fun _ _ _ h => h
              case hyd5_4 => (refine Or.inl ⟨by rfl, ?_⟩; intro w hSw; (try dsimp only at hSw); (go_simp <;> with_reducible rfl))
              (try simp only [Act.put, List.setIfInBounds_toArray, List.set_cons_zero, List.set_cons_succ])
              refine wpAnyH_ready (rs := [3, 6]) (by kernel_rfl) (by simp) ?_
              refine AllReadyH.cons (o := ?oid3_5) ?hid3_5 ?had3_5 ?hnd3_5
              case hid3_5 => (simp only [List.getElem?_toArray, List.getElem?_cons_succ, List.getElem?_cons_zero]; rfl)
              case had3_5 =>
                intro K hK
                refine step_lit rfl 24 2 3 _ [5, 0, -3] (by rfl) Try.underlying24 (by rfl) (by rfl) rfl (by omega) (by omega) (by rfl) ?_
                refine lit_d (F := F.out) ?_
                intro WA F2 hbW hob hpA
                replace F := Lib.hid F2
                have RA := Lib.hid (show Row _ 1 _ 3 (ints [5, 0, -3]) from hob.row1 rfl)
                clear hob F2
                try (replace RA := Lib.hid (RA.out.below hbW (Nat.le_refl _)))
                try (replace RB := Lib.hid (RB.out.below hbW (Nat.le_refl _)))
                clear hbW
                refine hK.out _ _ (F.out.k4.cell 4) (fun hHeld => ?_)
                clear hK K
                (try simp only [Act.put, List.setIfInBounds_toArray, List.set_cons_zero, List.set_cons_succ])
                refine wpAnyH_ready (rs := [4, 6]) (by kernel_rfl) (by simp) ?_
                refine AllReadyH.cons (o := ?oid4_6) ?hid4_6 ?had4_6 ?hnd4_6
                case hid4_6 => (simp only [List.getElem?_toArray, List.getElem?_cons_succ, List.getElem?_cons_zero]; rfl)
                case had4_6 =>
                  intro K hK
                  go_simp
                  go_at_call 46
                  refine (l01Pick_any _ _ _ _ [5, 0, -3] _ F.out.hs RA.out (by omega) (by omega) (fun b off e => by injection e with e; injection e with e _ _; have := hpA; omega)).mono ?_
                  rintro e wPu ⟨u, rfl, hx, hs, hg⟩
                  replace F := Lib.hid (F.out.draw hs hg)
                  try (replace RB := Lib.hid (RB.out.apart (by omega) hg (fun b off e e2 => by injection e with e; injection e with e _ _; injection e2 with e2; have := hpB; omega)))
                  clear hx hs hg
                  refine hK.out _ _ (F.out.k4.cell 4) (fun hHeld => ?_)
                  clear hK K
                  (try simp only [Act.put, List.setIfInBounds_toArray, List.set_cons_zero, List.set_cons_succ])
                  refine wpAnyH_ready (rs := [6]) (by kernel_rfl) (by simp) ?_
                  refine AllReadyH.cons (o := ?oid6_7) ?hid6_7 ?had6_7 ?hnd6_7
                  case hid6_7 => (simp only [List.getElem?_toArray, List.getElem?_cons_succ, List.getElem?_cons_zero]; rfl)
                  case had6_7 =>
                    intro K hK
                    refine step_lit rfl 24 2 2 _ [1, 9] (by rfl) Try.underlying24 (by rfl) (by rfl) rfl (by omega) (by omega) (by rfl) ?_
                    refine lit_d (F := F.out) ?_
                    intro WB F2 hbW hob hpB
                    replace F := Lib.hid F2
                    have RB := Lib.hid (show Row _ 1 _ 2 (ints [1, 9]) from hob.row1 rfl)
                    clear hob F2
                    try (replace RA := Lib.hid (RA.out.below hbW (Nat.le_refl _)))
                    try (replace RB := Lib.hid (RB.out.below hbW (Nat.le_refl _)))
                    clear hbW
                    refine hK.out _ _ (F.out.k4.cell 4) (fun hHeld => ?_)
                    clear hK K
                    (try simp only [Act.put, List.setIfInBounds_toArray, List.set_cons_zero, List.set_cons_succ])
                    refine wpAnyH_ready (rs := [7]) (by kernel_rfl) (by simp) ?_
                    refine AllReadyH.cons (o := ?oid7_8) ?hid7_8 ?had7_8 ?hnd7_8
                    case hid7_8 => (simp only [List.getElem?_toArray, List.getElem?_cons_succ, List.getElem?_cons_zero]; rfl)
                    case had7_8 =>
                      intro K hK
                      go_simp
                      go_at_call 46
                      refine (l01Pick_any _ _ _ _ [1, 9] _ F.out.hs RB.out (by omega) (by omega) (fun b off e => by injection e with e; injection e with e _ _; have := hpB; omega)).mono ?_
                      rintro e wPv ⟨v, rfl, hx, hs, hg⟩
                      replace F := Lib.hid (F.out.draw hs hg)
                      try (replace RA := Lib.hid (RA.out.apart (by omega) hg (fun b off e e2 => by injection e with e; injection e with e _ _; injection e2 with e2; have := hpA; omega)))
                      clear hx hs hg
                      refine hK.out _ _ (F.out.k4.cell 4) (fun hHeld => ?_)
                      clear hK K
                      (try simp only [Act.put, List.setIfInBounds_toArray, List.set_cons_zero, List.set_cons_succ])
                      refine wpAnyH_take (i := 8) (oi := ?oid8_9) (v := ?vd8_9) ?hid8_9 (by kernel_rfl) (by kernel_rfl) (by kernel_rfl) ?hQd8_9 ?hyd8_9 (by assumption) ?hrd8_9
                      case hid8_9 => (simp only [List.getElem?_toArray, List.getElem?_cons_succ, List.getElem?_cons_zero]; rfl)
                      case hQd8_9 => exact fun _ _ _ h => h
                      case hyd8_9 => (refine Or.inl ⟨by rfl, ?_⟩; intro w hSw; (try dsimp only at hSw); (go_simp <;> with_reducible rfl))
                      (try simp only [Act.put, List.setIfInBounds_toArray, List.set_cons_zero, List.set_cons_succ])
                      refine wpAnyH_take (i := 9) (oi := ?oid9_10) (v := ?vd9_10) ?hid9_10 (by kernel_rfl) (by kernel_rfl) (by kernel_rfl) ?hQd9_10 ?hyd9_10 (by assumption) ?hrd9_10
                      case hid9_10 => (simp only [List.getElem?_toArray, List.getElem?_cons_succ, List.getElem?_cons_zero]; rfl)
                      case hQd9_10 => exact fun _ _ _ h => h
                      case hyd9_10 => (refine Or.inl ⟨by rfl, ?_⟩; intro w hSw; (try dsimp only at hSw); (go_simp <;> with_reducible rfl))
                      (try simp only [Act.put, List.setIfInBounds_toArray, List.set_cons_zero, List.set_cons_succ])
                      refine wpAnyH_ready (rs := [10]) (by kernel_rfl) (by simp) ?_
                      refine AllReadyH.cons (o := ?oid10_11) ?hid10_11 ?had10_11 ?hnd10_11
                      case hid10_11 => (simp only [List.getElem?_toArray, List.getElem?_cons_succ, List.getElem?_cons_zero]; rfl)
                      case had10_11 =>
                        intro K hK
                        have hfz := F.out.od.frozenAt 0
                        have hfz1 := F.out.od.frozenAt 1
                        have hce := (F.out.od.cellAt 0 (by omega)).trans HE0.out.1
                        have hce1 := (F.out.od.cellAt 1 (by omega)).trans HE0.out.2
                        go_simp
                        refine set_d0 (F := F.out) ?_
                        intro W9 F2
                        replace F := Lib.hid F2
                        clear F2 hfz hce hfz1 hce1
                        refine hK.out _ _ (F.out.k4.cell 4) (fun hHeld => ?_)
                        clear hK K
                        (try simp only [Act.put, List.setIfInBounds_toArray, List.set_cons_zero, List.set_cons_succ])
                        refine wpAnyH_done (by kernel_rfl) ?_ _
                        go_wp2_with fail
                        go_meet
                        exact ⟨s, x, y, cs, ds.set 0 (u, v), F⟩
                      case hnd10_11 =>
                        exact AllReadyH.nil
                    case hnd7_8 =>
                      exact AllReadyH.nil
                  case hnd6_7 =>
                    exact AllReadyH.nil
                case hnd4_6 =>
                  refine AllReadyH.cons (o := ?oid6_12) ?hid6_12 ?had6_12 ?hnd6_12
                  case hid6_12 => (simp only [List.getElem?_toArray, List.getElem?_cons_succ, List.getElem?_cons_zero]; rfl)
                  case had6_12 =>
                    intro K hK
                    refine step_lit rfl 24 2 2 _ [1, 9] (by rfl) Try.underlying24 (by rfl) (by rfl) rfl (by omega) (by omega) (by rfl) ?_
                    refine lit_d (F := F.out) ?_
                    intro WB F2 hbW hob hpB
                    replace F := Lib.hid F2
                    have RB := Lib.hid (show Row _ 1 _ 2 (ints [1, 9]) from hob.row1 rfl)
                    clear hob F2
                    try (replace RA := Lib.hid (RA.out.below hbW (Nat.le_refl _)))
                    try (replace RB := Lib.hid (RB.out.below hbW (Nat.le_refl _)))
                    clear hbW
                    refine hK.out _ _ (F.out.k4.cell 4) (fun hHeld => ?_)
                    clear hK K
                    (try simp only [Act.put, List.setIfInBounds_toArray, List.set_cons_zero, List.set_cons_succ])
                    refine wpAnyH_ready (rs := [4]) (by kernel_rfl) (by simp) ?_
                    refine AllReadyH.cons (o := ?oid4_13) ?hid4_13 ?had4_13 ?hnd4_13
                    case hid4_13 => (simp only [List.getElem?_toArray, List.getElem?_cons_succ, List.getElem?_cons_zero]; rfl)
                    case had4_13 =>
                      intro K hK
                      go_simp
                      go_at_call 46
                      refine (l01Pick_any _ _ _ _ [5, 0, -3] _ F.out.hs RA.out (by omega) (by omega) (fun b off e => by injection e with e; injection e with e _ _; have := hpA; omega)).mono ?_
                      rintro e wPu ⟨u, rfl, hx, hs, hg⟩
                      replace F := Lib.hid (F.out.draw hs hg)
                      try (replace RB := Lib.hid (RB.out.apart (by omega) hg (fun b off e e2 => by injection e with e; injection e with e _ _; injection e2 with e2; have := hpB; omega)))
                      clear hx hs hg
                      refine hK.out _ _ (F.out.k4.cell 4) (fun hHeld => ?_)
                      clear hK K
                      (try simp only [Act.put, List.setIfInBounds_toArray, List.set_cons_zero, List.set_cons_succ])
                      refine wpAnyH_ready (rs := [7]) (by kernel_rfl) (by simp) ?_
                      refine AllReadyH.cons (o := ?oid7_14) ?hid7_14 ?had7_14 ?hnd7_14
                      case hid7_14 => (simp only [List.getElem?_toArray, List.getElem?_cons_succ, List.getElem?_cons_zero]; rfl)
                      case had7_14 =>
                        intro K hK
                        go_simp
                        go_at_call 46
                        refine (l01Pick_any _ _ _ _ [1, 9] _ F.out.hs RB.out (by omega) (by omega) (fun b off e => by injection e with e; injection e with e _ _; have := hpB; omega)).mono ?_
                        rintro e wPv ⟨v, rfl, hx, hs, hg⟩
                        replace F := Lib.hid (F.out.draw hs hg)
                        try (replace RA := Lib.hid (RA.out.apart (by omega) hg (fun b off e e2 => by injection e with e; injection e with e _ _; injection e2 with e2; have := hpA; omega)))
                        clear hx hs hg
                        refine hK.out _ _ (F.out.k4.cell 4) (fun hHeld => ?_)
                        clear hK K
                        (try simp only [Act.put, List.setIfInBounds_toArray, List.set_cons_zero, List.set_cons_succ])
                        refine wpAnyH_take (i := 8) (oi := ?oid8_15) (v := ?vd8_15) ?hid8_15 (by kernel_rfl) (by kernel_rfl) (by kernel_rfl) ?hQd8_15 ?hyd8_15 (by assumption) ?hrd8_15
                        case hid8_15 => (simp only [List.getElem?_toArray, List.getElem?_cons_succ, List.getElem?_cons_zero]; rfl)
                        case hQd8_15 => exact fun _ _ _ h => h
                        case hyd8_15 => (refine Or.inl ⟨by rfl, ?_⟩; intro w hSw; (try dsimp only at hSw); (go_simp <;> with_reducible rfl))
                        (try simp only [Act.put, List.setIfInBounds_toArray, List.set_cons_zero, List.set_cons_succ])
                        refine wpAnyH_take (i := 9) (oi := ?oid9_16) (v := ?vd9_16) ?hid9_16 (by kernel_rfl) (by kernel_rfl) (by kernel_rfl) ?hQd9_16 ?hyd9_16 (by assumption) ?hrd9_16
                        case hid9_16 => (simp only [List.getElem?_toArray, List.getElem?_cons_succ, List.getElem?_cons_zero]; rfl)
                        case hQd9_16 => exact fun _ _ _ h => h
                        case hyd9_16 => (refine Or.inl ⟨by rfl, ?_⟩; intro w hSw; (try dsimp only at hSw); (go_simp <;> with_reducible rfl))
                        (try simp only [Act.put, List.setIfInBounds_toArray, List.set_cons_zero, List.set_cons_succ])
                        refine wpAnyH_ready (rs := [10]) (by kernel_rfl) (by simp) ?_
                        refine AllReadyH.cons (o := ?oid10_17) ?hid10_17 ?had10_17 ?hnd10_17
                        case hid10_17 => (simp only [List.getElem?_toArray, List.getElem?_cons_succ, List.getElem?_cons_zero]; rfl)
                        case had10_17 =>
                          intro K hK
                          have hfz := F.out.od.frozenAt 0
                          have hfz1 := F.out.od.frozenAt 1
                          have hce := (F.out.od.cellAt 0 (by omega)).trans HE0.out.1
                          have hce1 := (F.out.od.cellAt 1 (by omega)).trans HE0.out.2
                          go_simp
                          refine set_d0 (F := F.out) ?_
                          intro W9 F2
                          replace F := Lib.hid F2
                          clear F2 hfz hce hfz1 hce1
                          refine hK.out _ _ (F.out.k4.cell 4) (fun hHeld => ?_)
                          clear hK K
                          (try simp only [Act.put, List.setIfInBounds_toArray, List.set_cons_zero, List.set_cons_succ])
                          refine wpAnyH_done (by kernel_rfl) ?_ _
                          go_wp2_with fail
                          go_meet
                          exact ⟨s, x, y, cs, ds.set 0 (u, v), F⟩
                        case hnd10_17 =>
                          exact AllReadyH.nil
                      case hnd7_14 =>
                        exact AllReadyH.nil
                    case hnd4_13 =>
                      exact AllReadyH.nil
                  case hnd6_12 =>
                    exact AllReadyH.nil
              case hnd3_5 =>
                refine AllReadyH.cons (o := ?oid6_18) ?hid6_18 ?had6_18 ?hnd6_18
                case hid6_18 => (simp only [List.getElem?_toArray, List.getElem?_cons_succ, List.getElem?_cons_zero]; rfl)
                case had6_18 =>
                  intro K hK
                  refine step_lit rfl 24 2 2 _ [1, 9] (by rfl) Try.underlying24 (by rfl) (by rfl) rfl (by omega) (by omega) (by rfl) ?_
                  refine lit_d (F := F.out) ?_
                  intro WB F2 hbW hob hpB
                  replace F := Lib.hid F2
                  have RB := Lib.hid (show Row _ 1 _ 2 (ints [1, 9]) from hob.row1 rfl)
                  clear hob F2
                  try (replace RA := Lib.hid (RA.out.below hbW (Nat.le_refl _)))
                  try (replace RB := Lib.hid (RB.out.below hbW (Nat.le_refl _)))
                  clear hbW
                  refine hK.out _ _ (F.out.k4.cell 4) (fun hHeld => ?_)
                  clear hK K
                  (try simp only [Act.put, List.setIfInBounds_toArray, List.set_cons_zero, List.set_cons_succ])
                  refine wpAnyH_ready (rs := [3]) (by kernel_rfl) (by simp) ?_
                  refine AllReadyH.cons (o := ?oid3_19) ?hid3_19 ?had3_19 ?hnd3_19
                  case hid3_19 => (simp only [List.getElem?_toArray, List.getElem?_cons_succ, List.getElem?_cons_zero]; rfl)
                  case had3_19 =>
                    intro K hK
                    refine step_lit rfl 24 2 3 _ [5, 0, -3] (by rfl) Try.underlying24 (by rfl) (by rfl) rfl (by omega) (by omega) (by rfl) ?_
                    refine lit_d (F := F.out) ?_
                    intro WA F2 hbW hob hpA
                    replace F := Lib.hid F2
                    have RA := Lib.hid (show Row _ 1 _ 3 (ints [5, 0, -3]) from hob.row1 rfl)
                    clear hob F2
                    try (replace RA := Lib.hid (RA.out.below hbW (Nat.le_refl _)))
                    try (replace RB := Lib.hid (RB.out.below hbW (Nat.le_refl _)))
                    clear hbW
                    refine hK.out _ _ (F.out.k4.cell 4) (fun hHeld => ?_)
                    clear hK K
                    (try simp only [Act.put, List.setIfInBounds_toArray, List.set_cons_zero, List.set_cons_succ])
                    refine wpAnyH_ready (rs := [4]) (by kernel_rfl) (by simp) ?_
                    refine AllReadyH.cons (o := ?oid4_20) ?hid4_20 ?had4_20 ?hnd4_20
                    case hid4_20 => (simp only [List.getElem?_toArray, List.getElem?_cons_succ, List.getElem?_cons_zero]; rfl)
                    case had4_20 =>
                      intro K hK
                      go_simp
                      go_at_call 46
                      refine (l01Pick_any _ _ _ _ [5, 0, -3] _ F.out.hs RA.out (by omega) (by omega) (fun b off e => by injection e with e; injection e with e _ _; have := hpA; omega)).mono ?_
                      rintro e wPu ⟨u, rfl, hx, hs, hg⟩
                      replace F := Lib.hid (F.out.draw hs hg)
                      try (replace RB := Lib.hid (RB.out.apart (by omega) hg (fun b off e e2 => by injection e with e; injection e with e _ _; injection e2 with e2; have := hpB; omega)))
                      clear hx hs hg
                      refine hK.out _ _ (F.out.k4.cell 4) (fun hHeld => ?_)
                      clear hK K
                      (try simp only [Act.put, List.setIfInBounds_toArray, List.set_cons_zero, List.set_cons_succ])
                      refine wpAnyH_ready (rs := [7]) (by kernel_rfl) (by simp) ?_
                      refine AllReadyH.cons (o := ?oid7_21) ?hid7_21 ?had7_21 ?hnd7_21
                      case hid7_21 => (simp only [List.getElem?_toArray, List.getElem?_cons_succ, List.getElem?_cons_zero]; rfl)
                      case had7_21 =>
                        intro K hK
                        go_simp
                        go_at_call 46
                        refine (l01Pick_any _ _ _ _ [1, 9] _ F.out.hs RB.out (by omega) (by omega) (fun b off e => by injection e with e; injection e with e _ _; have := hpB; omega)).mono ?_
                        rintro e wPv ⟨v, rfl, hx, hs, hg⟩
                        replace F := Lib.hid (F.out.draw hs hg)
                        try (replace RA := Lib.hid (RA.out.apart (by omega) hg (fun b off e e2 => by injection e with e; injection e with e _ _; injection e2 with e2; have := hpA; omega)))
                        clear hx hs hg
                        refine hK.out _ _ (F.out.k4.cell 4) (fun hHeld => ?_)
                        clear hK K
                        (try simp only [Act.put, List.setIfInBounds_toArray, List.set_cons_zero, List.set_cons_succ])
                        refine wpAnyH_take (i := 8) (oi := ?oid8_22) (v := ?vd8_22) ?hid8_22 (by kernel_rfl) (by kernel_rfl) (by kernel_rfl) ?hQd8_22 ?hyd8_22 (by assumption) ?hrd8_22
                        case hid8_22 => (simp only [List.getElem?_toArray, List.getElem?_cons_succ, List.getElem?_cons_zero]; rfl)
                        case hQd8_22 => exact fun _ _ _ h => h
                        case hyd8_22 => (refine Or.inl ⟨by rfl, ?_⟩; intro w hSw; (try dsimp only at hSw); (go_simp <;> with_reducible rfl))
                        (try simp only [Act.put, List.setIfInBounds_toArray, List.set_cons_zero, List.set_cons_succ])
                        refine wpAnyH_take (i := 9) (oi := ?oid9_23) (v := ?vd9_23) ?hid9_23 (by kernel_rfl) (by kernel_rfl) (by kernel_rfl) ?hQd9_23 ?hyd9_23 (by assumption) ?hrd9_23
                        case hid9_23 => (simp only [List.getElem?_toArray, List.getElem?_cons_succ, List.getElem?_cons_zero]; rfl)
                        case hQd9_23 => exact fun _ _ _ h => h
                        case hyd9_23 => (refine Or.inl ⟨by rfl, ?_⟩; intro w hSw; (try dsimp only at hSw); (go_simp <;> with_reducible rfl))
                        (try simp only [Act.put, List.setIfInBounds_toArray, List.set_cons_zero, List.set_cons_succ])
                        refine wpAnyH_ready (rs := [10]) (by kernel_rfl) (by simp) ?_
                        refine AllReadyH.cons (o := ?oid10_24) ?hid10_24 ?had10_24 ?hnd10_24
                        case hid10_24 => (simp only [List.getElem?_toArray, List.getElem?_cons_succ, List.getElem?_cons_zero]; rfl)
                        case had10_24 =>
                          intro K hK
                          have hfz := F.out.od.frozenAt 0
                          have hfz1 := F.out.od.frozenAt 1
                          have hce := (F.out.od.cellAt 0 (by omega)).trans HE0.out.1
                          have hce1 := (F.out.od.cellAt 1 (by omega)).trans HE0.out.2
                          go_simp
                          refine set_d0 (F := F.out) ?_
                          intro W9 F2
                          replace F := Lib.hid F2
                          clear F2 hfz hce hfz1 hce1
                          refine hK.out _ _ (F.out.k4.cell 4) (fun hHeld => ?_)
                          clear hK K
                          (try simp only [Act.put, List.setIfInBounds_toArray, List.set_cons_zero, List.set_cons_succ])
                          refine wpAnyH_done (by kernel_rfl) ?_ _
                          go_wp2_with fail
                          go_meet
                          exact ⟨s, x, y, cs, ds.set 0 (u, v), F⟩
                        case hnd10_24 =>
                          exact AllReadyH.nil
                      case hnd7_21 =>
                        exact AllReadyH.nil
                    case hnd4_20 =>
                      exact AllReadyH.nil
                  case hnd3_19 =>
                    exact AllReadyH.nil
                case hnd6_18 =>
                  exact AllReadyH.nil
            · have n2 : (r == 2) = false := by simpa using h2
              clear h2
              refine wp_cond_false (by show Value.bool (r == 2) = _; rw [n2]) ?_
              go_upto_if 61 with (fail)
              by_cases h3 : r = 3
              · subst h3
                refine wp_cond_true (by rfl) ?_
                have f2 := F.out.k4.frozen 2
                have a2 : w11.cell? ⟨G, 2, none⟩ = some (.int .i64 y) := F.out.k4.cell 2
                replace F := Lib.hid (F.out.setG 2 (.int .i64 (y + 1)))
                obtain ⟨w13, hw13⟩ : ∃ w13, w11.setCell ⟨G, 2, none⟩ (.int .i64 (y + 1)) = w13 := ⟨_, rfl⟩
                rw [hw13] at F
                go_wp2_with fail
                go_meet
                exact ⟨s, x, y + 1, cs, ds, F⟩
              · have n3 : (r == 3) = false := by simpa using h3
                clear h3
                refine wp_cond_false (by show Value.bool (r == 3) = _; rw [n3]) ?_
                go_wp2_with fail
                go_meet
                exact ⟨s, x, y, cs, ds, F⟩
      case rest => as_aux_lemma =>
        clear F
        obtain ⟨sv, xv, yv, cs, ds, F⟩ := hcut
        obtain ⟨w30, rfl⟩ : ∃ w30 : World, w30 = wc := ⟨_, rfl⟩
        have a0 : w30.cell? ⟨G, 0, none⟩ = some (.int .i64 sv) := F.out.k4.cell 0
        have a1 : w30.cell? ⟨G, 1, none⟩ = some (.int .i64 xv) := F.out.k4.cell 1
        have a2 : w30.cell? ⟨G, 2, none⟩ = some (.int .i64 yv) := F.out.k4.cell 2
        have a3 : w30.cell? ⟨G, 3, none⟩ = some (.slice (some ⟨g, 0, none⟩) n c) := F.out.k4.cell 3
        have a4 : w30.cell? ⟨G, 4, none⟩ = some (.slice (some ⟨q, 0, none⟩) n d) := F.out.k4.cell 4
        have b0 : w30.cell? ⟨H, 0, none⟩ = some (.int .i64 0) := F.out.k2.cell 0
        have b1 : w30.cell? ⟨H, 1, none⟩ = some (.int .i64 0) := F.out.k2.cell 1
        have b2 : w30.cell? ⟨H, 2, none⟩ = some (.int .i64 0) := F.out.k2.cell 2
        have b3 : w30.cell? ⟨H, 3, none⟩ = some (.slice none 0 0) := F.out.k2.cell 3
        have b4 : w30.cell? ⟨H, 4, none⟩ = some (.slice none 0 0) := F.out.k2.cell 4
        have f0 := F.out.k2.frozen 0
        have f1 := F.out.k2.frozen 1
        have f2 := F.out.k2.frozen 2
        have f3 := F.out.k2.frozen 3
        have f4 := F.out.k2.frozen 4
        have K6 := Lib.hid (F.out.k2.five (.int .i64 sv) (.int .i64 xv) (.int .i64 yv) (.slice (some ⟨g, 0, none⟩) n c) (.slice (some ⟨q, 0, none⟩) n d))
        have OC6 := Lib.hid (own_five (b := H) F.out.oc (.inl (by omega)) (.int .i64 sv) (.int .i64 xv) (.int .i64 yv) (.slice (some ⟨g, 0, none⟩) n c) (.slice (some ⟨q, 0, none⟩) n d)).row
        have OD6 := Lib.hid (own_five (b := H) F.out.od (.inl (by omega)) (.int .i64 sv) (.int .i64 xv) (.int .i64 yv) (.slice (some ⟨g, 0, none⟩) n c) (.slice (some ⟨q, 0, none⟩) n d)).row
        have BF := below_five (Below.refl H w30) (.int .i64 sv) (.int .i64 xv) (.int .i64 yv) (.slice (some ⟨g, 0, none⟩) n c) (.slice (some ⟨q, 0, none⟩) n d)
        have HS6 := F.out.hs.below BF st1
        have GR6 := grown_below F.out.gr (BF.mono (show w.heap.size ≤ H by omega))
        obtain ⟨wz, hwz⟩ : ∃ wz, ((((w30.setCell ⟨H, 0, none⟩ (.int .i64 sv)).setCell ⟨H, 1, none⟩ (.int .i64 xv)).setCell ⟨H, 2, none⟩ (.int .i64 yv)).setCell ⟨H, 3, none⟩ (.slice (some ⟨g, 0, none⟩) n c)).setCell ⟨H, 4, none⟩ (.slice (some ⟨q, 0, none⟩) n d) = wz := ⟨_, rfl⟩
        rw [hwz] at K6 OC6 OD6 HS6 GR6
        clear BF F
        go_wp2
        have z0 := K6.out.cell 0; have z1 := K6.out.cell 1; have z2 := K6.out.cell 2; have z3 := K6.out.cell 3; have z4 := K6.out.cell 4
        exact bodyPost_ret (v := .agg #[.int .i64 sv, .int .i64 xv, .int .i64 yv, .slice (some ⟨g, 0, none⟩) n c, .slice (some ⟨q, 0, none⟩) n d]) (by simp only [results, Try.results48, Array.size]; simp [go_sem, z0, z1, z2, z3, z4]) rfl ⟨_, _, _, g, q, n, c, d, cs, ds, rfl, OC6.out, OD6.out, hn30, by omega, by omega, HS6, GR6⟩
end Go.Proofs.Ytciicolknphcnaa
