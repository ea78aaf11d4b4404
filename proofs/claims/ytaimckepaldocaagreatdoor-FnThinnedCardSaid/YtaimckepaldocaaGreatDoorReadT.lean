/- Soundings read from a text, by both programs. -/
import Derived.Test.YtaimckepaldocaaGreatDoorReadS
import Derived.Test.YtaimckepaldocaaGreatDoorTwoR
import Derived.Test.YtaimckepaldocaaGreatDoorDrawSnds
namespace Go.Proofs.YtaimckepaldocaaGreatDoor
open Go.RowKit
set_option maxRecDepth 100000
set_option linter.unusedVariables false
open Go.Lib (decDigits itoa)
set_option linter.unusedSimpArgs false
set_option linter.unusedVariables false

/-- The first k words are read: the soundings ss. -/
def SdInv (A B : Int) (ws : List Txt) (k : Nat) (ss : List I4) : Prop := ss.map sndTxt = ws.take k ∧ ∀ t ∈ ss, inB A B t
section
variable {A B : Int} {ws : List Txt} {k : Nat} {ss : List I4} {l s : Txt} {t : I4}
theorem SdInv.start : SdInv A B ws 0 [] := ⟨by simp, by simp⟩
theorem SdInv.step (h : SdInv A B ws k ss) (hl : ws[k]? = some l) (ht : l = sndTxt t) (hb : inB A B t) : SdInv A B ws (k + 1) (ss ++ [t]) := by
  refine ⟨by rw [List.map_append, h.1, take_snoc hl, ht]; rfl, fun m hm => ?_⟩
  rcases List.mem_append.1 hm with hm | hm
  · exact h.2 m hm
  · simp at hm; subst hm; exact hb
theorem sndOk_inB (hA : A ≤ -2000) (hB : 1000000 ≤ B) (h : sndOk t = true) : inB A B t := by
  obtain ⟨x, y, z, u⟩ := t
  obtain ⟨h1, h2, h3, h4⟩ := sndOk_bd h
  exact ⟨⟨by show A ≤ x; omega, by show x ≤ B; omega⟩, ⟨by show A ≤ y; omega, by show y ≤ B; omega⟩, ⟨by show A ≤ z; omega, by show z ≤ B; omega⟩, ⟨by show A ≤ u; omega, by show u ≤ B; omega⟩⟩
theorem bad_snd (hA : A ≤ -2000) (hB : 1000000 ≤ B) (hs : s ≠ []) (hl : (cut 59 s)[k]? = some l) (hn : ∀ t : I4, inB A B t → l ≠ sndTxt t) (ss : List I4) (ho : sndsOk ss = true) : s ≠ sndsTxt ss := by
  intro e
  have hne : ss ≠ [] := fun h => hs (by rw [e, h]; rfl)
  rw [e, cut_sndsTxt hne, List.getElem?_map] at hl
  obtain ⟨t, ht, rfl⟩ := Option.map_eq_some_iff.1 hl
  exact hn t (sndOk_inB hA hB (sndsOk_get ho ht)) rfl
theorem SdInv.done (h : SdInv A B (cut 59 s) (cut 59 s).length ss) : s = sndsTxt ss := by
  have := h.1
  rw [List.take_of_length_le (Nat.le_refl _)] at this
  rw [sndsTxt, this, joinB_cut]
theorem bad_list (h : s = sndsTxt ss) (ho : sndsOk ss = false) (ss' : List I4) (ho' : sndsOk ss' = true) : s ≠ sndsTxt ss' := by
  intro e
  rw [h] at e
  have := sndsTxt_inj e
  subst this
  rw [ho] at ho'; cases ho'
end

/-- What reading a text of soundings gives. -/
def ReadPost (s : Txt) (w : World) (e : Ending) (w' : World) : Prop := (∃ (ss : List I4) (a : Option Addr) (cp : Nat), e = .returned (.tuple #[.slice a ss.length cp, .bool true]) ∧ Row w' 4 a ss.length (frs ss) ∧ sndsOk ss = true ∧ s = sndsTxt ss ∧ Below w.heap.size w w') ∨ (e = .returned (.tuple #[.slice none 0 0, .bool false]) ∧ (∀ ss : List I4, sndsOk ss = true → s ≠ sndsTxt ss) ∧ Below w.heap.size w w')

theorem lit_v {KK : Act → World → Prop} {f : Act} {W : World} {vs : Array Value} {E : Nat} (h : ∀ W', Below W.heap.size W W' → W.heap.size < W'.heap.size → Blk W' W.heap.size E vs → KK f W') : KK f (W.alloc (.cells vs E)) :=
  h _ ((Below.refl _ _).alloc (Nat.le_refl _) _) (by simp) (Blk.new W E vs)
theorem lit_vd {KK : Act → World → Prop} {f : Act} {W : World} {vs : Array Value} {E : Nat} (h : ∀ W', Below W.drew.heap.size W.drew W' → W.heap.size < W'.heap.size → Blk W' W.heap.size E vs → KK f W') : KK f (W.alloc (.cells vs E)).drew :=
  have hb : Below W.heap.size W (W.alloc (.cells vs E)) := (Below.refl _ _).alloc (Nat.le_refl _) _
  h _ ⟨hb.os, hb.tape, hb.output, hb.size, hb.block⟩ (by show W.heap.size < (W.alloc (.cells vs E)).heap.size; simp) ((Blk.new W E vs).drew)
theorem _root_.Go.Proofs.YtaimckepaldocaaGreatDoor.Blk.rowF {w : World} {b E : Nat} {x y z u : Int} (h : Blk w b E #[.int .i64 x, .int .i64 y, .int .i64 z, .int .i64 u]) : Row w 4 (some ⟨b, 0, none⟩) 1 (frs [(x, y, z, u)]) :=
  ⟨by simp [frs], fun _ => ⟨b, 0, rfl, fun j v hv => by rw [Nat.zero_add, h.cell]; simpa [frs] using hv⟩⟩
theorem cell_grown {w w' : World} {row : Option Nat} {b o : Nat} {v : Value} (hg : w.grownBy w' row) (hne : ∀ g, row = some g → g ≠ b) (hc : w.cell? ⟨b, o, none⟩ = some v) : w'.cell? ⟨b, o, none⟩ = some v := by
  have hlt := World.block_lt_of_cell? w _ hc
  rw [World.cell?] at hc ⊢
  rw [hg.block b hlt (fun e => hne b e.symm rfl)]
  exact hc
theorem frs_one' (t : I4) : ∀ u ∈ frs [t], u.oneCell' = true := by
  intro u hu
  simp [frs] at hu
  rcases hu with rfl | rfl | rfl | rfl <;> rfl
theorem row_frs1 (w : World) (t : I4) (b E : Nat) (hb : b = w.heap.size) : Row (w.alloc (.cells #[.int .i64 t.1, .int .i64 t.2.1, .int .i64 t.2.2.1, .int .i64 t.2.2.2] E)) 4 (some ⟨b, 0, none⟩) 1 (frs [t]) := Row.litK w (frs [t]) E b 1 4 hb (by simp [frs])

set_option maxHeartbeats 6400000 in
theorem readSoundings_impl (s : ByteArray) (w : World) (hs : s.size ≤ 100000) (G : GV w) :
    Calls Tryz.prog 9 #[.string s] w (ReadPost s.data.toList w) := by
  have hsd := Lib.hid (size_data s)
  by_cases hs0 : s.data.toList = []
  · have he2 : s = ⟨#[]⟩ := by rw [← str_data s, hs0]; rfl
    subst he2
    clear hsd hs0
    go_enter Tryz.func9, Tryz.ntmps9
    go_wp2
    go_returns
    exact .inl ⟨[], _, 0, rfl, Row.nil_, rfl, rfl, Below.refl _ _⟩
  have he : (s.toList == ([] : List UInt8)) = false := by
    rw [beq_eq_false_iff_ne, toL]
    exact hs0
  have HS0 := Lib.hid hs0
  clear hs0
  go_enter Tryz.func9, Tryz.ntmps9
  go_wp2_with fail
  go_at_call 28
  refine (split_any 59 s _ (by omega) G).mono ?_
  rintro e w1 ⟨b, rfl, hb0, hR, hb⟩
  have HG1 := Lib.hid (G.below hb)
  have B0 := Lib.hid hb
  clear G hb hb0
  have hcl := cut_length_le 59 s.data.toList
  obtain ⟨N, hN⟩ : ∃ N, (cut 59 s.data.toList).length = N := ⟨_, rfl⟩
  have HN := Lib.hid hN
  rw [hN] at hR hcl ⊢
  have HR1 := Lib.hid hR
  have hN2 : N ≤ 100001 := by have := hsd.out; omega
  clear hR hcl hN
  have O0 := Lib.hid (Own.nil_ w1 w1.heap.size w1.heap.size 38 4)
  go_wp2
  go_loopw [4, 6, 7, 8, 14] (fun o _ _ _ i wr => ∃ (k cp : Nat) (a : Option Addr) (ss : List I4), o = .slice a ss.length cp ∧ i = .int .i64 k ∧ k ≤ N ∧ ss.length ≤ k ∧ Hid (SdInv (-9223372036854775808) 9223372036854775807 (cut 59 s.data.toList) k ss) ∧ Hid (Own wr w1.heap.size wr.heap.size 38 4 a ss.length cp (frs ss)) ∧ Below w1.heap.size w1 wr) (fun _ _ _ _ i _ => N - (intOf i).toNat)
  case atStart => exact ⟨0, 0, none, [], rfl, rfl, by omega, by simp, Lib.hid SdInv.start, O0, Below.refl _ _⟩
  case round =>
    clear O0
    obtain ⟨k, cp, a, ss, rfl, rfl, hk, hnk, HI, HO, B⟩ := hrel
    have hzB := B.size
    by_cases hlt : k < N
    · have hkI : (k : Int) < (N : Int) := by omega
      obtain ⟨l, hl⟩ : ∃ l, (cut 59 s.data.toList)[k]? = some l := ⟨_, List.getElem?_eq_getElem (by rw [HN.out]; exact hlt)⟩
      have HL := Lib.hid hl
      have hc := (HR1.out.below B (Nat.le_refl _)).getS hl
      rw [Nat.zero_add] at hc
      have hll : (str l).size ≤ 1048576 := by rw [str_size]; have := cut_word_le (List.mem_of_getElem? hl); have := hsd.out; omega
      clear hl
      go_wp2_with fail
      go_at_call 29
      refine (readNumbers_any _ _ hll (HG1.out.below B)).mono ?_
      intro e w2 hd
      obtain ⟨a4, q4, c4, ok, rfl, hyes, hno, hb⟩ := hd
      rw [data_str] at hyes hno
      replace B := B.trans (hb.mono B.size)
      cases ok with
      | false =>
        have hbad := Lib.hid (bad_snd (by omega) (by omega) HS0.out HL.out (hno rfl))
        clear hyes hno
        go_wp2
        go_returns
        exact .inr ⟨rfl, hbad.out, B0.out.trans (B.mono B0.out.size)⟩
      | true =>
        obtain ⟨t, b4, off4, rfl, hb4, rfl, hR4, hlt4, hin⟩ := hyes rfl
        have HI2 := Lib.hid (HI.out.step HL.out hlt4 hin)
        have hz2 := hb.size
        have hap : ∀ g, (Value.slice a ss.length cp).ownBlock = some g → g ≠ b4 := fun g hg => by have := HO.out.lt g hg; omega
        replace HO := Lib.hid (HO.out.below hb (.inr (Nat.le_refl _))).leave
        clear hno hyes hlt4 hin HI HL hc hb
        obtain ⟨x, y, z, u⟩ := t
        have HR4 := Lib.hid hR4
        have g0 := HR4.out.get_ (k := 0) (x := x) rfl
        have g1 := HR4.out.get_ (k := 1) (x := y) rfl
        have g2 := HR4.out.get_ (k := 2) (x := z) rfl
        have g3 := HR4.out.get_ (k := 3) (x := u) rfl
        rw [Nat.add_zero] at g0
        clear hR4 HR4
        go_upto_region 10 with (fail)
        replace B := B.drew
        replace HO := Lib.hid (HO.out.below (Below.refl _ _).drew (.inr (Nat.le_refl _)))
        refine wp_region_held_drew (S := fun w' => w'.cell? ⟨b4, off4, none⟩ = some (.int .i64 x) ∧ w'.cell? ⟨b4, off4 + 1, none⟩ = some (.int .i64 y) ∧ w'.cell? ⟨b4, off4 + 2, none⟩ = some (.int .i64 z) ∧ w'.cell? ⟨b4, off4 + 3, none⟩ = some (.int .i64 u)) (by kernel_rfl) (⟨g0, g1, g2, g3⟩) (fun hHeld => ?_)
        refine wpAnyH_take (i := 0) (oi := ?oii0_1) (v := ?vi0_1) ?hii0_1 (by kernel_rfl) (by kernel_rfl) (by kernel_rfl) ?hQi0_1 ?hyi0_1 (by assumption) ?hri0_1
        case hii0_1 => (simp only [List.getElem?_toArray, List.getElem?_cons_succ, List.getElem?_cons_zero]; rfl)
        case hQi0_1 => exact fun _ _ _ h => h
        case hyi0_1 => (refine Or.inl ⟨by rfl, ?_⟩; intro w hSw; (try dsimp only at hSw); (go_simp <;> with_reducible rfl))
        (try simp only [Act.put, List.setIfInBounds_toArray, List.set_cons_zero, List.set_cons_succ])
        refine wpAnyH_take (i := 1) (oi := ?oii1_2) (v := ?vi1_2) ?hii1_2 (by kernel_rfl) (by kernel_rfl) (by kernel_rfl) ?hQi1_2 ?hyi1_2 (by assumption) ?hri1_2
        case hii1_2 => (simp only [List.getElem?_toArray, List.getElem?_cons_succ, List.getElem?_cons_zero]; rfl)
        case hQi1_2 => exact fun _ _ _ h => h
        case hyi1_2 => (refine Or.inl ⟨by rfl, ?_⟩; intro w hSw; (try dsimp only at hSw); (go_simp <;> with_reducible rfl))
        (try simp only [Act.put, List.setIfInBounds_toArray, List.set_cons_zero, List.set_cons_succ])
        refine wpAnyH_take (i := 2) (oi := ?oii2_3) (v := ?vi2_3) ?hii2_3 (by kernel_rfl) (by kernel_rfl) (by kernel_rfl) ?hQi2_3 ?hyi2_3 (by assumption) ?hri2_3
        case hii2_3 => (simp only [List.getElem?_toArray, List.getElem?_cons_succ, List.getElem?_cons_zero]; rfl)
        case hQi2_3 => exact fun _ _ _ h => h
        case hyi2_3 => (refine Or.inl ⟨by rfl, ?_⟩; intro w hSw; (try dsimp only at hSw); (go_simp <;> with_reducible rfl))
        (try simp only [Act.put, List.setIfInBounds_toArray, List.set_cons_zero, List.set_cons_succ])
        refine wpAnyH_take (i := 3) (oi := ?oii3_4) (v := ?vi3_4) ?hii3_4 (by kernel_rfl) (by kernel_rfl) (by kernel_rfl) ?hQi3_4 ?hyi3_4 (by assumption) ?hri3_4
        case hii3_4 => (simp only [List.getElem?_toArray, List.getElem?_cons_succ, List.getElem?_cons_zero]; rfl)
        case hQi3_4 => exact fun _ _ _ h => h
        case hyi3_4 => (refine Or.inl ⟨by rfl, ?_⟩; intro w hSw; (try dsimp only at hSw); (go_simp <;> with_reducible rfl))
        (try simp only [Act.put, List.setIfInBounds_toArray, List.set_cons_zero, List.set_cons_succ])
        refine wpAnyH_take (i := 4) (oi := ?oii4_5) (v := ?vi4_5) ?hii4_5 (by kernel_rfl) (by kernel_rfl) (by kernel_rfl) ?hQi4_5 ?hyi4_5 (by assumption) ?hri4_5
        case hii4_5 => (simp only [List.getElem?_toArray, List.getElem?_cons_succ, List.getElem?_cons_zero]; rfl)
        case hQi4_5 => exact fun _ _ _ h => h
        case hyi4_5 => (refine Or.inl ⟨by rfl, ?_⟩; intro w hSw; (try dsimp only at hSw); (go_simp <;> with_reducible rfl))
        (try simp only [Act.put, List.setIfInBounds_toArray, List.set_cons_zero, List.set_cons_succ])
        refine wpAnyH_take (i := 5) (oi := ?oii5_6) (v := ?vi5_6) ?hii5_6 (by kernel_rfl) (by kernel_rfl) (by kernel_rfl) ?hQi5_6 ?hyi5_6 (by assumption) ?hri5_6
        case hii5_6 => (simp only [List.getElem?_toArray, List.getElem?_cons_succ, List.getElem?_cons_zero]; rfl)
        case hQi5_6 => exact fun _ _ _ h => h
        case hyi5_6 => (refine Or.inl ⟨by rfl, ?_⟩; intro w hSw; (try dsimp only at hSw); (go_simp <;> with_reducible rfl))
        (try simp only [Act.put, List.setIfInBounds_toArray, List.set_cons_zero, List.set_cons_succ])
        refine wpAnyH_take (i := 6) (oi := ?oii6_7) (v := ?vi6_7) ?hii6_7 (by kernel_rfl) (by kernel_rfl) (by kernel_rfl) ?hQi6_7 ?hyi6_7 (by assumption) ?hri6_7
        case hii6_7 => (simp only [List.getElem?_toArray, List.getElem?_cons_succ, List.getElem?_cons_zero]; rfl)
        case hQi6_7 => exact fun _ _ _ h => h
        case hyi6_7 => (refine Or.inl ⟨by rfl, ?_⟩; intro w hSw; (try dsimp only at hSw); (go_simp <;> with_reducible rfl))
        (try simp only [Act.put, List.setIfInBounds_toArray, List.set_cons_zero, List.set_cons_succ])
        refine wpAnyH_take (i := 7) (oi := ?oii7_8) (v := ?vi7_8) ?hii7_8 (by kernel_rfl) (by kernel_rfl) (by kernel_rfl) ?hQi7_8 ?hyi7_8 (by assumption) ?hri7_8
        case hii7_8 => (simp only [List.getElem?_toArray, List.getElem?_cons_succ, List.getElem?_cons_zero]; rfl)
        case hQi7_8 => exact fun _ _ _ h => h
        case hyi7_8 => (refine Or.inl ⟨by rfl, ?_⟩; intro w hSw; (try dsimp only at hSw); (go_simp <;> with_reducible rfl))
        (try simp only [Act.put, List.setIfInBounds_toArray, List.set_cons_zero, List.set_cons_succ])
        refine wpAnyH_take (i := 8) (oi := ?oii8_9) (v := ?vi8_9) ?hii8_9 (by kernel_rfl) (by kernel_rfl) (by kernel_rfl) ?hQi8_9 ?hyi8_9 (by assumption) ?hri8_9
        case hii8_9 => (simp only [List.getElem?_toArray, List.getElem?_cons_succ, List.getElem?_cons_zero]; rfl)
        case hQi8_9 => exact fun _ _ _ h => h
        case hyi8_9 => (refine Or.inl ⟨by rfl, ?_⟩; intro w hSw; (try dsimp only at hSw); (go_simp <;> with_reducible rfl))
        (try simp only [Act.put, List.setIfInBounds_toArray, List.set_cons_zero, List.set_cons_succ])
        refine wpAnyH_take (i := 9) (oi := ?oii9_10) (v := ?vi9_10) ?hii9_10 (by kernel_rfl) (by kernel_rfl) (by kernel_rfl) ?hQi9_10 ?hyi9_10 (by assumption) ?hri9_10
        case hii9_10 => (simp only [List.getElem?_toArray, List.getElem?_cons_succ, List.getElem?_cons_zero]; rfl)
        case hQi9_10 => exact fun _ _ _ h => h
        case hyi9_10 => (refine Or.inl ⟨by rfl, ?_⟩; intro w hSw; (try dsimp only at hSw); (go_simp <;> with_reducible rfl))
        (try simp only [Act.put, List.setIfInBounds_toArray, List.set_cons_zero, List.set_cons_succ])
        refine wpAnyH_take (i := 10) (oi := ?oii10_11) (v := ?vi10_11) ?hii10_11 (by kernel_rfl) (by kernel_rfl) (by kernel_rfl) ?hQi10_11 ?hyi10_11 (by assumption) ?hri10_11
        case hii10_11 => (simp only [List.getElem?_toArray, List.getElem?_cons_succ, List.getElem?_cons_zero]; rfl)
        case hQi10_11 => exact fun _ _ _ h => h
        case hyi10_11 => (refine Or.inl ⟨by rfl, ?_⟩; intro w hSw; (try dsimp only at hSw); (go_simp <;> with_reducible rfl))
        (try simp only [Act.put, List.setIfInBounds_toArray, List.set_cons_zero, List.set_cons_succ])
        refine wpAnyH_take (i := 11) (oi := ?oii11_12) (v := ?vi11_12) ?hii11_12 (by kernel_rfl) (by kernel_rfl) (by kernel_rfl) ?hQi11_12 ?hyi11_12 (by assumption) ?hri11_12
        case hii11_12 => (simp only [List.getElem?_toArray, List.getElem?_cons_succ, List.getElem?_cons_zero]; rfl)
        case hQi11_12 => exact fun _ _ _ h => h
        case hyi11_12 => (refine Or.inl ⟨by rfl, ?_⟩; intro w hSw; (try dsimp only at hSw); (go_simp <;> with_reducible rfl))
        (try simp only [Act.put, List.setIfInBounds_toArray, List.set_cons_zero, List.set_cons_succ])
        refine wpAnyH_take (i := 12) (oi := ?oii12_13) (v := ?vi12_13) ?hii12_13 (by kernel_rfl) (by kernel_rfl) (by kernel_rfl) ?hQi12_13 ?hyi12_13 (by assumption) ?hri12_13
        case hii12_13 => (simp only [List.getElem?_toArray, List.getElem?_cons_succ, List.getElem?_cons_zero]; rfl)
        case hQi12_13 => exact fun _ _ _ h => h
        case hyi12_13 => (refine Or.inl ⟨by rfl, ?_⟩; intro w hSw; (try dsimp only at hSw); (go_simp <;> with_reducible rfl))
        (try simp only [Act.put, List.setIfInBounds_toArray, List.set_cons_zero, List.set_cons_succ])
        refine wpAnyH_take (i := 13) (oi := ?oii13_14) (v := ?vi13_14) ?hii13_14 (by kernel_rfl) (by kernel_rfl) (by kernel_rfl) ?hQi13_14 ?hyi13_14 (by assumption) ?hri13_14
        case hii13_14 => (simp only [List.getElem?_toArray, List.getElem?_cons_succ, List.getElem?_cons_zero]; rfl)
        case hQi13_14 => exact fun _ _ _ h => h
        case hyi13_14 => (refine Or.inl ⟨by rfl, ?_⟩; intro w hSw; (try dsimp only at hSw); (go_simp <;> with_reducible rfl))
        (try simp only [Act.put, List.setIfInBounds_toArray, List.set_cons_zero, List.set_cons_succ])
        refine wpAnyH_ready (rs := [14]) (by kernel_rfl) (by simp) ?_
        refine AllReadyH.cons (o := ?oii14_15) ?hii14_15 ?hai14_15 ?hni14_15
        case hii14_15 => (simp only [List.getElem?_toArray, List.getElem?_cons_succ, List.getElem?_cons_zero]; rfl)
        case hai14_15 =>
          intro K hK
          go_simp
          (first | refine lit_v ?_ | refine lit_vd ?_)
          intro W7 hb7 hz7 KB
          have RB := Lib.hid (KB.rowF (x := x) (y := y) (z := z) (u := u))
          replace B := B.trans (hb7.mono B.size)
          replace HO := Lib.hid (HO.out.below hb7 (.inr (Nat.le_refl _)))
          replace g0 := Below.cellSelf hb7 g0
          replace g1 := Below.cellSelf hb7 g1
          replace g2 := Below.cellSelf hb7 g2
          replace g3 := Below.cellSelf hb7 g3
          have hzB7 := B.size
          clear hb7 KB
          refine hK.out _ _ (⟨g0, g1, g2, g3⟩) (fun hHeld => ?_)
          clear hK K
          (try simp only [Act.put, List.setIfInBounds_toArray, List.set_cons_zero, List.set_cons_succ])
          refine wpAnyH_ready (rs := [15]) (by kernel_rfl) (by simp) ?_
          refine AllReadyH.cons (o := ?oii15_16) ?hii15_16 ?hai15_16 ?hni15_16
          case hii15_16 => (simp only [List.getElem?_toArray, List.getElem?_cons_succ, List.getElem?_cons_zero]; rfl)
          case hai15_16 =>
            intro K hK
            refine step_app _ (by rfl) (.tmp 25) (.tmp 39) _ (by rfl) Tryz.underlying24 info_Sounding (by rfl) (by decide) (by rfl) HO.out (by rfl) RB.out (frs_one' _) (by decide) (by simp only [maxLen]; omega) (by omega) (by omega) ?_
            intro A2 c2 w9 hown9 hb9 hg9
            have O9 := Lib.hid (show Own w9 w1.heap.size w9.heap.size 38 4 A2 (ss ++ [(x, y, z, u)]).length c2 (frs (ss ++ [(x, y, z, u)])) by rw [frs_app, List.length_append]; exact hown9)
            replace B := B.trans hb9
            replace g0 := cell_grown hg9 hap g0
            replace g1 := cell_grown hg9 hap g1
            replace g2 := cell_grown hg9 hap g2
            replace g3 := cell_grown hg9 hap g3
            clear hown9 hb9 hg9 HO RB hap
            refine hK.out _ _ (⟨g0, g1, g2, g3⟩) (fun hHeld => ?_)
            clear hK K
            (try simp only [Act.put, List.setIfInBounds_toArray, List.set_cons_zero, List.set_cons_succ])
            refine wpAnyH_take (i := 16) (oi := ?oii16_17) (v := ?vi16_17) ?hii16_17 (by kernel_rfl) (by kernel_rfl) (by kernel_rfl) ?hQi16_17 ?hyi16_17 (by assumption) ?hri16_17
            case hii16_17 => (simp only [List.getElem?_toArray, List.getElem?_cons_succ, List.getElem?_cons_zero]; rfl)
            case hQi16_17 => exact fun _ _ _ h => h
            case hyi16_17 => (refine Or.inl ⟨by rfl, ?_⟩; intro w hSw; (try dsimp only at hSw); (go_simp <;> with_reducible rfl))
            (try simp only [Act.put, List.setIfInBounds_toArray, List.set_cons_zero, List.set_cons_succ])
            refine wpAnyH_done (by kernel_rfl) ?_ _
            go_wp2
            go_roundw
            case rel => exact ⟨k + 1, c2, A2, ss ++ [(x, y, z, u)], by simp, by go_num, by omega, by simp; omega, HI2, O9, B⟩
            case measure => simp [intOf] <;> omega
          case hni15_16 =>
            exact AllReadyH.nil
        case hni14_15 =>
          exact AllReadyH.nil
    · obtain rfl : k = N := by omega
      have hI := HI.out
      rw [← HN.out] at hI
      have HD := Lib.hid hI.done
      clear HI hI
      go_wp2_with fail
      go_at_call 15
      refine (areSoundings_impl _ _ _ _ _ HO.out.row (by omega)).mono ?_
      rintro e w2 ⟨rfl, hb⟩
      replace B := B.trans (hb.mono B.size)
      have hR := Lib.hid (HO.out.row.below4 hb (Nat.le_refl _))
      cases hok : sndsOk ss with
      | false =>
        have hbad := Lib.hid (bad_list HD.out hok)
        clear hok
        go_wp2
        go_returns
        exact .inr ⟨rfl, hbad.out, B0.out.trans (B.mono B0.out.size)⟩
      | true =>
        have HK := Lib.hid hok
        clear hok
        go_wp2
        go_returns
        exact .inl ⟨ss, a, cp, rfl, hR.out, HK.out, HD.out, B0.out.trans (B.mono B0.out.size)⟩

set_option maxHeartbeats 6400000 in
theorem readSoundings_spec (s : ByteArray) (w : World) (hs : s.size ≤ 100000) :
    Calls Tryz.prog 11 #[.string s] w (ReadPost s.data.toList w) := by
  have hsd := Lib.hid (size_data s)
  obtain ⟨H, hH⟩ : ∃ H, w.heap.size = H := ⟨_, rfl⟩
  have B0 := Lib.hid ((Below.refl w.heap.size w).alloc (Nat.le_refl _) (.cells #[] 38))
  have OH := Lib.hid (show Own (w.alloc (.cells #[] 38)) H (H + 1) 38 4 (some ⟨H, 0, none⟩) 0 0 [] from hH ▸ Own.lit0 w 38 4)
  have hwH : w.heap.size ≤ H := by omega
  have hwH2 : (w.alloc (.cells #[] 38)).heap.size = H + 1 := by simp; omega
  by_cases hs0 : s.data.toList = []
  · have he2 : s = ⟨#[]⟩ := by rw [← str_data s, hs0]; rfl
    subst he2
    clear hsd hs0
    go_enter Tryz.func11, Tryz.ntmps11
    go_wp2
    go_returns
    exact .inl ⟨[], _, 0, rfl, Row.nil_, rfl, rfl, B0.out⟩
  have he : (s.toList == ([] : List UInt8)) = false := by
    rw [beq_eq_false_iff_ne, toL]
    exact hs0
  have HS0 := Lib.hid hs0
  clear hs0
  go_enter Tryz.func11, Tryz.ntmps11
  go_wp2_with fail
  go_at_call 31
  refine (l01Split_any 59 s _ (by omega)).mono ?_
  rintro e w1 ⟨bw, cpw, rfl, hO, hb⟩
  have hn0 : 0 < (cut 59 s.data.toList).length := List.length_pos_iff.2 (cut_ne _ _)
  obtain ⟨b, rfl, hb0, -, hb1⟩ := hO.head hn0
  have hR := hO.row
  have hHb : H < b := by omega
  replace B0 := Lib.hid (B0.out.trans (hb.mono B0.out.size))
  have OS := Lib.hid (show Sol w1 38 4 H 0 0 [] from OH.out.below hb (.inl (by omega)))
  obtain ⟨Z, hZ⟩ : ∃ Z, w1.heap.size = Z := ⟨_, rfl⟩
  have hbZ : b < Z := by omega
  have hZ1 : Z ≤ w1.heap.size := by omega
  have hHw : H < w1.heap.size := by omega
  clear hO hb hn0 hb0 hb1 OH hwH2 hZ hH
  have hcl := cut_length_le 59 s.data.toList
  obtain ⟨N, hN⟩ : ∃ N, (cut 59 s.data.toList).length = N := ⟨_, rfl⟩
  have HN := Lib.hid hN
  rw [hN] at hR hcl ⊢
  have HR1 := Lib.hid hR
  have hN2 : N ≤ 100001 := by have := hsd.out; omega
  clear hR hcl hN
  have hHw2 : ([] : List I4).length ≤ 0 := by simp
  go_wp2
  go_loopw [4, 6, 7, 8] (fun o i _ _ wr => ∃ (k cp g : Nat) (ss : List I4), o = .slice (some ⟨g, 0, none⟩) ss.length cp ∧ i = .int .i64 k ∧ k ≤ N ∧ ss.length ≤ k ∧ Hid (SdInv (-999999999999) 999999999999 (cut 59 s.data.toList) k ss) ∧ Hid (Sol wr 38 4 g ss.length cp (frs ss)) ∧ (g = H ∨ Z ≤ g) ∧ Z ≤ wr.heap.size ∧ Below w.heap.size w wr ∧ Hid (Row wr 1 (some ⟨b, 0, none⟩) N (strs (cut 59 s.data.toList)))) (fun _ i _ _ _ => N - (intOf i).toNat)
  case atStart => exact ⟨0, 0, H, [], rfl, rfl, by omega, by simp, Lib.hid SdInv.start, OS, .inl rfl, hZ1, B0.out, HR1⟩
  case round =>
    clear OS B0 HR1 hZ1
    obtain ⟨k, cp, g, ss, rfl, rfl, hk, hnk, HI, HO, hgz, hZr, B, HR1⟩ := hrel
    have hzB := B.size
    by_cases hlt : k < N
    · have hkI : (k : Int) < (N : Int) := by omega
      obtain ⟨l, hl⟩ : ∃ l, (cut 59 s.data.toList)[k]? = some l := ⟨_, List.getElem?_eq_getElem (by rw [HN.out]; exact hlt)⟩
      have HL := Lib.hid hl
      have hc := HR1.out.getS hl
      rw [Nat.zero_add] at hc
      have hlL : l.length ≤ 1048576 := by have := cut_word_le (List.mem_of_getElem? hl); have := hsd.out; omega
      have hll : (str l).size ≤ 1048576 := by rw [str_size]; exact hlL
      have hgs := HO.out.lt
      clear hl
      go_wp2_with fail
      go_at_call 31
      refine (l01Split_any 32 (str l) _ hll).mono ?_
      rintro e w2 ⟨b2, c2, rfl, hO2, hb⟩
      rw [data_str] at hO2 ⊢
      have hR2 := hO2.row
      have hw2 := Lib.hid (show ∀ v ∈ cut 32 l, v.length ≤ 1048576 from fun v hv => by have := cut_word_le hv; omega)
      have hl2 := cut_length_le 32 l
      have hz2 := hb.size
      replace B := B.trans (hb.mono B.size)
      replace HO := Lib.hid (show Sol w2 38 4 g ss.length cp (frs ss) from HO.out.below hb (.inl (by omega)))
      replace HR1 := Lib.hid (HR1.out.below hb (Nat.le_refl _))
      clear hO2 hb hc
      obtain ⟨M, hM⟩ : ∃ M, (cut 32 l).length = M := ⟨_, rfl⟩
      rw [hM] at hR2 hl2 ⊢
      go_wp2_with fail
      go_at_call 32
      refine (l01Numbers_any _ _ _ _ _ hR2 (by omega) hw2).mono ?_
      intro e w3 hd
      obtain ⟨a4, q4, c4, ok, ns, rfl, hyes, hno, hb⟩ := hd
      have hz3 := hb.size
      replace B := B.trans (hb.mono B.size)
      replace HO := Lib.hid (show Sol w3 38 4 g ss.length cp (frs ss) from HO.out.below hb (.inl (by omega)))
      replace HR1 := Lib.hid (HR1.out.below hb (Nat.le_refl _))
      clear hb hR2 hw2
      cases ok with
      | false =>
        obtain ⟨k', l', n', h1, h2⟩ := hno rfl
        have hbad := Lib.hid (bad_snd (by omega) (by omega) HS0.out HL.out (bad_word h1 h2))
        clear hyes hno h1 h2
        go_wp2
        go_returns
        exact .inr ⟨rfl, hbad.out, B⟩
      | true =>
        obtain ⟨ha4, hR4, hq, hri⟩ := hyes rfl
        by_cases h4 : q4 = 4
        · subst h4
          obtain ⟨b4, rfl, hb4⟩ := ha4 (by omega)
          obtain ⟨t, rfl, hlt4, hin⟩ := good_words hri hq.symm
          have HI2 := Lib.hid (HI.out.step HL.out hlt4 hin)
          have hap : ∀ g', some g = some g' → g' ≠ b4 := fun g' e => by injection e with e; omega
          clear hno hyes hlt4 hin HI HL hri hM hq ha4
          obtain ⟨x, y, z, u⟩ := t
          have HR4 := Lib.hid (show Row w3 1 (some ⟨b4, 0, none⟩) 4 (ints [x, y, z, u]) from hR4)
          have g0 := HR4.out.get_ (k := 0) (x := x) rfl
          have g1 := HR4.out.get_ (k := 1) (x := y) rfl
          have g2 := HR4.out.get_ (k := 2) (x := z) rfl
          have g3 := HR4.out.get_ (k := 3) (x := u) rfl
          simp only [Nat.zero_add] at g0 g1 g2 g3
          clear hR4 HR4
          go_upto_region 11 with (fail)
          replace B := B.drew
          replace HR1 := Lib.hid HR1.out.drew
          replace HO := Lib.hid (show Sol w3.drew 38 4 g ss.length cp (frs ss) from HO.out.below (Below.refl _ _).drew (.inr (Nat.le_refl _)))
          refine wp_region_held_drew (S := fun w' => w'.cell? ⟨b4, 0, none⟩ = some (.int .i64 x) ∧ w'.cell? ⟨b4, 1, none⟩ = some (.int .i64 y) ∧ w'.cell? ⟨b4, 2, none⟩ = some (.int .i64 z) ∧ w'.cell? ⟨b4, 3, none⟩ = some (.int .i64 u)) (by kernel_rfl) (⟨g0, g1, g2, g3⟩) (fun hHeld => ?_)
          refine wpAnyH_take (i := 0) (oi := ?ois0_1) (v := ?vs0_1) ?his0_1 (by kernel_rfl) (by kernel_rfl) (by kernel_rfl) ?hQs0_1 ?hys0_1 (by assumption) ?hrs0_1
          case his0_1 => (simp only [List.getElem?_toArray, List.getElem?_cons_succ, List.getElem?_cons_zero]; rfl)
          case hQs0_1 => exact fun _ _ _ h => h
          case hys0_1 => (refine Or.inl ⟨by rfl, ?_⟩; intro w hSw; (try dsimp only at hSw); (go_simp <;> with_reducible rfl))
          (try simp only [Act.put, List.setIfInBounds_toArray, List.set_cons_zero, List.set_cons_succ])
          refine wpAnyH_take (i := 1) (oi := ?ois1_2) (v := ?vs1_2) ?his1_2 (by kernel_rfl) (by kernel_rfl) (by kernel_rfl) ?hQs1_2 ?hys1_2 (by assumption) ?hrs1_2
          case his1_2 => (simp only [List.getElem?_toArray, List.getElem?_cons_succ, List.getElem?_cons_zero]; rfl)
          case hQs1_2 => exact fun _ _ _ h => h
          case hys1_2 => (refine Or.inl ⟨by rfl, ?_⟩; intro w hSw; (try dsimp only at hSw); (go_simp <;> with_reducible rfl))
          (try simp only [Act.put, List.setIfInBounds_toArray, List.set_cons_zero, List.set_cons_succ])
          refine wpAnyH_take (i := 2) (oi := ?ois2_3) (v := ?vs2_3) ?his2_3 (by kernel_rfl) (by kernel_rfl) (by kernel_rfl) ?hQs2_3 ?hys2_3 (by assumption) ?hrs2_3
          case his2_3 => (simp only [List.getElem?_toArray, List.getElem?_cons_succ, List.getElem?_cons_zero]; rfl)
          case hQs2_3 => exact fun _ _ _ h => h
          case hys2_3 => (refine Or.inl ⟨by rfl, ?_⟩; intro w hSw; (try dsimp only at hSw); (go_simp <;> with_reducible rfl))
          (try simp only [Act.put, List.setIfInBounds_toArray, List.set_cons_zero, List.set_cons_succ])
          refine wpAnyH_take (i := 3) (oi := ?ois3_4) (v := ?vs3_4) ?his3_4 (by kernel_rfl) (by kernel_rfl) (by kernel_rfl) ?hQs3_4 ?hys3_4 (by assumption) ?hrs3_4
          case his3_4 => (simp only [List.getElem?_toArray, List.getElem?_cons_succ, List.getElem?_cons_zero]; rfl)
          case hQs3_4 => exact fun _ _ _ h => h
          case hys3_4 => (refine Or.inl ⟨by rfl, ?_⟩; intro w hSw; (try dsimp only at hSw); (go_simp <;> with_reducible rfl))
          (try simp only [Act.put, List.setIfInBounds_toArray, List.set_cons_zero, List.set_cons_succ])
          refine wpAnyH_take (i := 4) (oi := ?ois4_5) (v := ?vs4_5) ?his4_5 (by kernel_rfl) (by kernel_rfl) (by kernel_rfl) ?hQs4_5 ?hys4_5 (by assumption) ?hrs4_5
          case his4_5 => (simp only [List.getElem?_toArray, List.getElem?_cons_succ, List.getElem?_cons_zero]; rfl)
          case hQs4_5 => exact fun _ _ _ h => h
          case hys4_5 => (refine Or.inl ⟨by rfl, ?_⟩; intro w hSw; (try dsimp only at hSw); (go_simp <;> with_reducible rfl))
          (try simp only [Act.put, List.setIfInBounds_toArray, List.set_cons_zero, List.set_cons_succ])
          refine wpAnyH_take (i := 5) (oi := ?ois5_6) (v := ?vs5_6) ?his5_6 (by kernel_rfl) (by kernel_rfl) (by kernel_rfl) ?hQs5_6 ?hys5_6 (by assumption) ?hrs5_6
          case his5_6 => (simp only [List.getElem?_toArray, List.getElem?_cons_succ, List.getElem?_cons_zero]; rfl)
          case hQs5_6 => exact fun _ _ _ h => h
          case hys5_6 => (refine Or.inl ⟨by rfl, ?_⟩; intro w hSw; (try dsimp only at hSw); (go_simp <;> with_reducible rfl))
          (try simp only [Act.put, List.setIfInBounds_toArray, List.set_cons_zero, List.set_cons_succ])
          refine wpAnyH_take (i := 6) (oi := ?ois6_7) (v := ?vs6_7) ?his6_7 (by kernel_rfl) (by kernel_rfl) (by kernel_rfl) ?hQs6_7 ?hys6_7 (by assumption) ?hrs6_7
          case his6_7 => (simp only [List.getElem?_toArray, List.getElem?_cons_succ, List.getElem?_cons_zero]; rfl)
          case hQs6_7 => exact fun _ _ _ h => h
          case hys6_7 => (refine Or.inl ⟨by rfl, ?_⟩; intro w hSw; (try dsimp only at hSw); (go_simp <;> with_reducible rfl))
          (try simp only [Act.put, List.setIfInBounds_toArray, List.set_cons_zero, List.set_cons_succ])
          refine wpAnyH_take (i := 7) (oi := ?ois7_8) (v := ?vs7_8) ?his7_8 (by kernel_rfl) (by kernel_rfl) (by kernel_rfl) ?hQs7_8 ?hys7_8 (by assumption) ?hrs7_8
          case his7_8 => (simp only [List.getElem?_toArray, List.getElem?_cons_succ, List.getElem?_cons_zero]; rfl)
          case hQs7_8 => exact fun _ _ _ h => h
          case hys7_8 => (refine Or.inl ⟨by rfl, ?_⟩; intro w hSw; (try dsimp only at hSw); (go_simp <;> with_reducible rfl))
          (try simp only [Act.put, List.setIfInBounds_toArray, List.set_cons_zero, List.set_cons_succ])
          refine wpAnyH_take (i := 8) (oi := ?ois8_9) (v := ?vs8_9) ?his8_9 (by kernel_rfl) (by kernel_rfl) (by kernel_rfl) ?hQs8_9 ?hys8_9 (by assumption) ?hrs8_9
          case his8_9 => (simp only [List.getElem?_toArray, List.getElem?_cons_succ, List.getElem?_cons_zero]; rfl)
          case hQs8_9 => exact fun _ _ _ h => h
          case hys8_9 => (refine Or.inl ⟨by rfl, ?_⟩; intro w hSw; (try dsimp only at hSw); (go_simp <;> with_reducible rfl))
          (try simp only [Act.put, List.setIfInBounds_toArray, List.set_cons_zero, List.set_cons_succ])
          refine wpAnyH_take (i := 9) (oi := ?ois9_10) (v := ?vs9_10) ?his9_10 (by kernel_rfl) (by kernel_rfl) (by kernel_rfl) ?hQs9_10 ?hys9_10 (by assumption) ?hrs9_10
          case his9_10 => (simp only [List.getElem?_toArray, List.getElem?_cons_succ, List.getElem?_cons_zero]; rfl)
          case hQs9_10 => exact fun _ _ _ h => h
          case hys9_10 => (refine Or.inl ⟨by rfl, ?_⟩; intro w hSw; (try dsimp only at hSw); (go_simp <;> with_reducible rfl))
          (try simp only [Act.put, List.setIfInBounds_toArray, List.set_cons_zero, List.set_cons_succ])
          refine wpAnyH_take (i := 10) (oi := ?ois10_11) (v := ?vs10_11) ?his10_11 (by kernel_rfl) (by kernel_rfl) (by kernel_rfl) ?hQs10_11 ?hys10_11 (by assumption) ?hrs10_11
          case his10_11 => (simp only [List.getElem?_toArray, List.getElem?_cons_succ, List.getElem?_cons_zero]; rfl)
          case hQs10_11 => exact fun _ _ _ h => h
          case hys10_11 => (refine Or.inl ⟨by rfl, ?_⟩; intro w hSw; (try dsimp only at hSw); (go_simp <;> with_reducible rfl))
          (try simp only [Act.put, List.setIfInBounds_toArray, List.set_cons_zero, List.set_cons_succ])
          refine wpAnyH_take (i := 11) (oi := ?ois11_12) (v := ?vs11_12) ?his11_12 (by kernel_rfl) (by kernel_rfl) (by kernel_rfl) ?hQs11_12 ?hys11_12 (by assumption) ?hrs11_12
          case his11_12 => (simp only [List.getElem?_toArray, List.getElem?_cons_succ, List.getElem?_cons_zero]; rfl)
          case hQs11_12 => exact fun _ _ _ h => h
          case hys11_12 => (refine Or.inl ⟨by rfl, ?_⟩; intro w hSw; (try dsimp only at hSw); (go_simp <;> with_reducible rfl))
          (try simp only [Act.put, List.setIfInBounds_toArray, List.set_cons_zero, List.set_cons_succ])
          refine wpAnyH_take (i := 12) (oi := ?ois12_13) (v := ?vs12_13) ?his12_13 (by kernel_rfl) (by kernel_rfl) (by kernel_rfl) ?hQs12_13 ?hys12_13 (by assumption) ?hrs12_13
          case his12_13 => (simp only [List.getElem?_toArray, List.getElem?_cons_succ, List.getElem?_cons_zero]; rfl)
          case hQs12_13 => exact fun _ _ _ h => h
          case hys12_13 => (refine Or.inl ⟨by rfl, ?_⟩; intro w hSw; (try dsimp only at hSw); (go_simp <;> with_reducible rfl))
          (try simp only [Act.put, List.setIfInBounds_toArray, List.set_cons_zero, List.set_cons_succ])
          refine wpAnyH_take (i := 13) (oi := ?ois13_14) (v := ?vs13_14) ?his13_14 (by kernel_rfl) (by kernel_rfl) (by kernel_rfl) ?hQs13_14 ?hys13_14 (by assumption) ?hrs13_14
          case his13_14 => (simp only [List.getElem?_toArray, List.getElem?_cons_succ, List.getElem?_cons_zero]; rfl)
          case hQs13_14 => exact fun _ _ _ h => h
          case hys13_14 => (refine Or.inl ⟨by rfl, ?_⟩; intro w hSw; (try dsimp only at hSw); (go_simp <;> with_reducible rfl))
          (try simp only [Act.put, List.setIfInBounds_toArray, List.set_cons_zero, List.set_cons_succ])
          refine wpAnyH_ready (rs := [14]) (by kernel_rfl) (by simp) ?_
          refine AllReadyH.cons (o := ?ois14_15) ?his14_15 ?has14_15 ?hns14_15
          case his14_15 => (simp only [List.getElem?_toArray, List.getElem?_cons_succ, List.getElem?_cons_zero]; rfl)
          case has14_15 =>
            intro K hK
            go_simp
            (first | refine lit_v ?_ | refine lit_vd ?_)
            intro W7 hb7 hz7 KB
            have RB := Lib.hid (KB.rowF (x := x) (y := y) (z := z) (u := u))
            replace B := B.trans (hb7.mono B.size)
            replace HR1 := Lib.hid (HR1.out.below hb7 (Nat.le_refl _))
            replace HO := Lib.hid (show Sol W7 38 4 g ss.length cp (frs ss) from HO.out.below hb7 (.inr (Nat.le_refl _)))
            replace g0 := Below.cellSelf hb7 g0
            replace g1 := Below.cellSelf hb7 g1
            replace g2 := Below.cellSelf hb7 g2
            replace g3 := Below.cellSelf hb7 g3
            have hzB7 := B.size
            clear hb7 KB
            refine hK.out _ _ (⟨g0, g1, g2, g3⟩) (fun hHeld => ?_)
            clear hK K
            (try simp only [Act.put, List.setIfInBounds_toArray, List.set_cons_zero, List.set_cons_succ])
            refine wpAnyH_ready (rs := [15]) (by kernel_rfl) (by simp) ?_
            refine AllReadyH.cons (o := ?ois15_16) ?his15_16 ?has15_16 ?hns15_16
            case his15_16 => (simp only [List.getElem?_toArray, List.getElem?_cons_succ, List.getElem?_cons_zero]; rfl)
            case has15_16 =>
              intro K hK
              refine step_sol (by rfl) (.tmp 37) (.tmp 51) _ (by rfl) Tryz.underlying24 info_Sounding (by rfl) (by decide) (by rfl) HO.out (by rfl) RB.out (frs_one' _) (by decide) (by simp only [maxLen]; omega) (by omega) ?_
              intro gn cn w9 hown9 hg9 hgn
              have O9 := Lib.hid (show Sol w9 38 4 gn (ss ++ [(x, y, z, u)]).length cn (frs (ss ++ [(x, y, z, u)])) by rw [frs_app, List.length_append]; exact hown9)
              have hz9 := hg9.size
              have HR9 := Lib.hid (HR1.out.apart1 (by omega) hg9 (fun _ b' off e => by injection e with e; injection e with e _ _; omega))
              have B9 := B.grown hg9 B.size (fun r hr => by injection hr with hr; omega)
              have hgn2 : gn = H ∨ Z ≤ gn := by omega
              replace g0 := cell_grown hg9 hap g0
              replace g1 := cell_grown hg9 hap g1
              replace g2 := cell_grown hg9 hap g2
              replace g3 := cell_grown hg9 hap g3
              clear hown9 hg9 HO RB hap hgn B HR1
              refine hK.out _ _ (⟨g0, g1, g2, g3⟩) (fun hHeld => ?_)
              clear hK K
              (try simp only [Act.put, List.setIfInBounds_toArray, List.set_cons_zero, List.set_cons_succ])
              refine wpAnyH_take (i := 16) (oi := ?ois16_17) (v := ?vs16_17) ?his16_17 (by kernel_rfl) (by kernel_rfl) (by kernel_rfl) ?hQs16_17 ?hys16_17 (by assumption) ?hrs16_17
              case his16_17 => (simp only [List.getElem?_toArray, List.getElem?_cons_succ, List.getElem?_cons_zero]; rfl)
              case hQs16_17 => exact fun _ _ _ h => h
              case hys16_17 => (refine Or.inl ⟨by rfl, ?_⟩; intro w hSw; (try dsimp only at hSw); (go_simp <;> with_reducible rfl))
              (try simp only [Act.put, List.setIfInBounds_toArray, List.set_cons_zero, List.set_cons_succ])
              refine wpAnyH_done (by kernel_rfl) ?_ _
              go_wp2
              go_roundw
              case rel => exact ⟨k + 1, cn, gn, ss ++ [(x, y, z, u)], by simp, by go_num, by omega, by simp; omega, HI2, O9, hgn2, by omega, B9, HR9⟩
              case measure => simp [intOf] <;> omega
            case hns15_16 =>
              exact AllReadyH.nil
          case hns14_15 =>
            exact AllReadyH.nil
        · have hbad := Lib.hid (bad_snd (A := -999999999999) (B := 999999999999) (by omega) (by omega) HS0.out HL.out (fun t ht => not_four hri (by omega) t))
          have h4I : ((q4 : Int) != 4) = true := by simp; omega
          clear hyes hno hri ha4 hq
          go_wp2
          go_returns
          exact .inr ⟨rfl, hbad.out, B⟩
    · obtain rfl : k = N := by omega
      have hI := HI.out
      rw [← HN.out] at hI
      have HD := Lib.hid hI.done
      clear HI hI
      go_wp2_with fail
      go_at_call 16
      refine (areSoundings_spec _ _ _ _ _ HO.out.row (by omega)).mono ?_
      rintro e w2 ⟨rfl, hb⟩
      replace B := B.trans (hb.mono B.size)
      have hR := Lib.hid (HO.out.row.below4 hb (Nat.le_refl _))
      cases hok : sndsOk ss with
      | false =>
        have hbad := Lib.hid (bad_list HD.out hok)
        clear hok
        go_wp2
        go_returns
        exact .inr ⟨rfl, hbad.out, B⟩
      | true =>
        have HK := Lib.hid hok
        clear hok
        go_wp2
        go_returns
        exact .inl ⟨ss, _, cp, rfl, hR.out, HK.out, HD.out, B⟩
end Go.Proofs.YtaimckepaldocaaGreatDoor
