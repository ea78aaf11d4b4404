/- The text of a list of soundings, as the specification writes it. -/
import Derived.Test.YtaimckepaldocaaGreatDoorTextS
import Derived.Test.YtaimckepaldocaaGreatDoorReadT
import Derived.Lib.AppendStr
namespace Go.Proofs.YtaimckepaldocaaGreatDoor
open Go.RowKit
set_option maxRecDepth 100000
set_option linter.unusedVariables false
open Go.Lib (decDigits itoa)
set_option linter.unusedSimpArgs false
set_option linter.unusedVariables false

/-- A string's bytes appended, at a region's step. -/
theorem step_app_str {P : Program} (w : World) {ops : Array Oper} {o : Oper} {a : Act} {K : Act → World → Prop} {Q : Exit → Act → World → Prop} {F : Prop} (hgd : o.guard = none) (sl x : Operand) (t u : TypeId)
    (ho : o.op = .call { callee := .builtin .append, args := #[sl, x], argTypes := #[t, u] })
    {E : TypeId} (ht : P.underlying t = some (.slice E)) (hu : P.underlying u = some .string) (hinfo : (P.info? E).map (fun i => (i.zero, i.size, i.bytes)) = some (some (.int .u8 0), 1, 1))
    {lo hi : Nat} {A : Option Addr} {n c : Nat} {vs : List Value} (hs : a.eval sl = .slice A n c) (hown : Own w lo hi E 1 A n c vs) (s : ByteArray) (hx : a.eval x = .string s)
    (h63 : n + s.size ≤ maxLen) (hbytes : n + s.size ≤ 140737488355328) (hlo : lo ≤ w.heap.size)
    (h : ∀ A2 c2 w', Own w' lo w'.heap.size E 1 A2 (n + s.size) c2 (vs ++ Go.Lib.strCells s) → Below lo w w' → w.grownBy w' (Value.slice A n c).ownBlock → K (a.put o.dst (.slice A2 (n + s.size) c2)) w') :
    if Region.wanted o (yielded ops a.tmps) = true then Oper.wp P o a w K Q else F := by
  have hw : Region.wanted o (yielded ops a.tmps) = true := by simp [Region.wanted, hgd]
  rw [if_pos hw]
  obtain ⟨i0, hi0, hz0, hz1, hz2⟩ := info_parts hinfo
  obtain ⟨v', w', hr, h2, h3, h4⟩ := Go.Lib.run_append_own_string (P := P) w lo t u o.type E i0 ht hu hi0 hz0 hz1 hz2 (.slice A n c) n vs hown.1 s h63 hbytes hlo
  unfold Oper.wp execOp
  simp only [ho, resolve, invoke, builtin, Sem.run_bind, Sem.run_pure, Result.andThen_ok, List.map_toArray, List.map_cons, List.map_nil, hs, hx, hr]
  have hb : Below lo w w' := (Below.refl _ _).grown h3 hlo (fun k hk => (hown.1.lt k hk).1)
  show K _ _
  rcases h2.2 with ⟨rfl, h0⟩ | ⟨g, cap, cur, rfl, hbg, hgg, hrest⟩
  · have := h none 0 w' (by
      refine ⟨⟨h2.1, .inl ⟨by rw [h0], h0⟩⟩, fun g hg => by simp [Value.ownBlock] at hg⟩) hb h3
    rw [h0] at this
    exact this
  · exact h _ _ w' ⟨h2, fun g' hg' => by
      simp [Value.ownBlock] at hg'
      subst hg'
      exact (Array.getElem?_eq_some_iff.1 hgg).1⟩ hb h3

theorem _root_.Go.Proofs.YtaimckepaldocaaGreatDoor.Blk.row1 {w : World} {b E n : Nat} {vs : Array Value} (h : Blk w b E vs) (hn : vs.toList.length = n) : Row w 1 (some ⟨b, 0, none⟩) n vs.toList :=
  ⟨by omega, fun _ => ⟨b, 0, rfl, fun j u hu => by rw [Nat.zero_add, h.cell]; simpa using hu⟩⟩

def byts (l : Txt) : List Value := l.map fun c => .int .u8 (c.toNat : Int)
theorem byts_length (l : Txt) : (byts l).length = l.length := by simp [byts]
theorem byts_app (a b : Txt) : byts (a ++ b) = byts a ++ byts b := by simp [byts]
theorem byts_one (l : Txt) : ∀ u ∈ byts l, u.oneCell' = true := by
  intro u hu
  obtain ⟨c, _, rfl⟩ := List.mem_map.1 hu
  rfl
theorem strCells_str (l : Txt) : Go.Lib.strCells (str l) = byts l := by simp [Go.Lib.strCells, byts, data_str]
theorem info_u8 : (Tryz.prog.info? 5).map (fun i => (i.zero, i.size, i.bytes)) = some (some (.int .u8 0), 1, 1) := by kernel_rfl
/-- 'string(b)'. -/
theorem conv_byts (w : World) (b cap : Nat) (l : Txt) (h : Row w 1 (some ⟨b, 0, none⟩) l.length (byts l)) :
    (convert 22 9 (.slice (some ⟨b, 0, none⟩) l.length cap)).run Tryz.prog w = .ok (.string (str l)) w :=
  run_convert_bytes_back (P := Tryz.prog) w 22 9 5 ⟨b, 0, none⟩ cap l Tryz.underlying22 Tryz.underlying5 Tryz.underlying9 (fun j hj => by
    obtain ⟨b', off', e, hc⟩ := h.2 (by omega)
    injection e with e
    injection e with e1 e2 _
    subst e1; subst e2
    have := hc j (.int .u8 (l[j].toNat : Int)) (by simp [byts, hj])
    unfold Addr.add
    split
    · rename_i h0; subst h0; simpa using this
    · simpa using this)

set_option maxHeartbeats 6400000 in
theorem soundingsText_spec (a0 : Option Addr) (n c0 : Nat) (ss : List I4) (w : World) (h : Row w 4 a0 n (frs ss)) (hn : n ≤ 1048576) :
    Calls Tryz.prog 13 #[.slice a0 n c0] w fun e w' => e = .returned (.string (str (txtOf ss))) ∧ Below w.heap.size w w' := by
  have H := Lib.hid h
  clear h
  go_enter Tryz.func13, Tryz.ntmps13
  go_wp2_with fail
  go_at_call 16
  refine (areSoundings_spec _ _ _ _ _ H.out hn).mono ?_
  rintro e w1 ⟨rfl, hb⟩
  have B0 := Lib.hid hb
  have H1 := Lib.hid (H.out.below4 hb (Nat.le_refl _))
  clear hb H
  cases hok : sndsOk ss with
  | false =>
    have he := Lib.hid (show txtOf ss = [] by rw [txtOf, hok]; rfl)
    clear hok
    go_wp2
    go_ret
    exact ⟨by rw [he.out]; rfl, B0.out⟩
  | true =>
    have he := Lib.hid (show txtOf ss = sndsTxt ss by rw [txtOf, hok]; rfl)
    have HOK := Lib.hid hok
    have hn2 := sndsOk_len hok H1.out.len4
    have HJ := Lib.hid (show ∀ k, (joinB 59 ((ss.map sndTxt).take k)).length ≤ 17800 from fun k => by
      have h1 := joinB_len 59 88 ((ss.map sndTxt).take k) (fun l hl => by
        obtain ⟨t, ht, rfl⟩ := List.mem_map.1 (List.mem_of_mem_take hl)
        obtain ⟨j, hj⟩ := List.mem_iff_getElem?.1 ht
        exact sndTxt_len (sndsOk_get HOK.out hj))
      have h2 : ((ss.map sndTxt).take k).length ≤ 200 := by rw [List.length_take, List.length_map, H1.out.len4]; omega
      have h3 : ((ss.map sndTxt).take k).length * 89 ≤ 200 * 89 := Nat.mul_le_mul_right _ h2
      omega)
    clear hok
    obtain ⟨H0, hH0⟩ : ∃ H0, w1.heap.size = H0 := ⟨_, rfl⟩
    have O0 := Lib.hid ((Own.lit0 w1 5 1).mono (lo' := w1.heap.size) (hi' := (w1.alloc (.cells #[] 5)).heap.size) (by omega) (by simp))
    have B1 := (Below.refl w1.heap.size w1).alloc (Nat.le_refl _) (.cells #[] 5)
    clear hH0
    go_wp2
    go_loopw [3, 4] (fun o i wr => ∃ (k cp b : Nat) (out : Txt), o = .slice (some ⟨b, 0, none⟩) out.length cp ∧ i = .int .i64 k ∧ k ≤ n ∧ Hid (out = joinB 59 ((ss.map sndTxt).take k)) ∧ Hid (Own wr w1.heap.size wr.heap.size 5 1 (some ⟨b, 0, none⟩) out.length cp (byts out)) ∧ Below w1.heap.size w1 wr) (fun _ i _ => n - (intOf i).toNat)
    case atStart => exact ⟨0, 0, _, [], rfl, rfl, by omega, Lib.hid (by simp [joinB, Go.Lib.join]), O0, B1⟩
    case round =>
      clear O0 B1
      obtain ⟨k, cp, b0, out, rfl, rfl, hk, HX, HO, B⟩ := hrel
      have hzB := B.size
      by_cases hlt : k < n
      · have hkI : (k : Int) < (n : Int) := by omega
        have hol : out.length ≤ 17800 := by rw [HX.out]; exact HJ.out k
        obtain ⟨b, off, x, y, z, u, rfl, -, hx⟩ := (H1.out.below4 B (Nat.le_refl _)).at4 hlt
        have HG := Lib.hid hx.out
        have hb4 := Lib.hid (show ∀ m ∈ [x, y, z, u], -9223372036854775807 ≤ m ∧ m ≤ 9223372036854775807 from by
          obtain ⟨h1, h2, h3, h4⟩ := sndOk_bd (sndsOk_get HOK.out hx.out)
          intro m hm
          simp only [List.mem_cons, List.mem_nil_iff, or_false] at hm
          rcases hm with rfl | rfl | rfl | rfl <;> omega)
        have HT := Lib.hid (show (ss.map sndTxt)[k]? = some (joinB 32 ([x, y, z, u].map itoa)) by rw [List.getElem?_map, hx.out]; rfl)
        have hPl := sndTxt_len (sndsOk_get HOK.out hx.out)
        obtain ⟨P, hP⟩ : ∃ P, joinB 32 ([x, y, z, u].map itoa) = P := ⟨_, rfl⟩
        have HP := Lib.hid hP
        replace HT := Lib.hid (hP ▸ HT.out)
        have hPl2 : P.length ≤ 88 := by rw [← hP]; exact hPl
        clear hx hP hPl
        by_cases hk0 : k = 0
        · subst hk0
          have ho0 : out = [] := by rw [HX.out]; simp [joinB, Go.Lib.join]
          subst ho0
          have H2 := Lib.hid (show ([] : Txt) ++ P = joinB 59 ((ss.map sndTxt).take (0 + 1)) by rw [take_snoc HT.out, List.take_zero]; simp only [List.nil_append, joinB_one])
          have hbl : ([] : Txt).length ≤ 17800 := by simp
          have hPp : 0 < P.length := by rw [← HP.out]; exact List.length_pos_iff.2 (sndTxt_ne (x, y, z, u))
          clear HX HT
          go_upto_region 9 with (fail)
          replace B := B.drew
          replace HO := Lib.hid (HO.out.below (Below.refl _ _).drew (.inr (Nat.le_refl _)))
          refine wp_region_held_drew (S := fun w' => w'.cell? ⟨b, off, none⟩ = some (.int .i64 x) ∧ w'.cell? ⟨b, off + 1, none⟩ = some (.int .i64 y) ∧ w'.cell? ⟨b, off + 2, none⟩ = some (.int .i64 z) ∧ w'.cell? ⟨b, off + 3, none⟩ = some (.int .i64 u)) (by kernel_rfl) ((by simpa using (H1.out.below4 B (Nat.le_refl _)).get4_ HG.out)) (fun hHeld => ?_)
          refine wpAnyH_take (i := 0) (oi := ?oia0_1) (v := ?va0_1) ?hia0_1 (by kernel_rfl) (by kernel_rfl) (by kernel_rfl) ?hQa0_1 ?hya0_1 (by assumption) ?hra0_1
          case hia0_1 => (simp only [List.getElem?_toArray, List.getElem?_cons_succ, List.getElem?_cons_zero]; rfl)
          case hQa0_1 => exact fun _ _ _ h => h
          case hya0_1 => (refine Or.inl ⟨by rfl, ?_⟩; intro w hSw; (try dsimp only at hSw); (go_simp <;> with_reducible rfl))
          (try simp only [Act.put, List.setIfInBounds_toArray, List.set_cons_zero, List.set_cons_succ])
          refine wpAnyH_take (i := 1) (oi := ?oia1_2) (v := ?va1_2) ?hia1_2 (by kernel_rfl) (by kernel_rfl) (by kernel_rfl) ?hQa1_2 ?hya1_2 (by assumption) ?hra1_2
          case hia1_2 => (simp only [List.getElem?_toArray, List.getElem?_cons_succ, List.getElem?_cons_zero]; rfl)
          case hQa1_2 => exact fun _ _ _ h => h
          case hya1_2 => (refine Or.inl ⟨by rfl, ?_⟩; intro w hSw; (try dsimp only at hSw); (go_simp <;> with_reducible rfl))
          (try simp only [Act.put, List.setIfInBounds_toArray, List.set_cons_zero, List.set_cons_succ])
          refine wpAnyH_take (i := 2) (oi := ?oia2_3) (v := ?va2_3) ?hia2_3 (by kernel_rfl) (by kernel_rfl) (by kernel_rfl) ?hQa2_3 ?hya2_3 (by assumption) ?hra2_3
          case hia2_3 => (simp only [List.getElem?_toArray, List.getElem?_cons_succ, List.getElem?_cons_zero]; rfl)
          case hQa2_3 => exact fun _ _ _ h => h
          case hya2_3 => (refine Or.inl ⟨by rfl, ?_⟩; intro w hSw; (try dsimp only at hSw); (go_simp <;> with_reducible rfl))
          (try simp only [Act.put, List.setIfInBounds_toArray, List.set_cons_zero, List.set_cons_succ])
          refine wpAnyH_take (i := 3) (oi := ?oia3_4) (v := ?va3_4) ?hia3_4 (by kernel_rfl) (by kernel_rfl) (by kernel_rfl) ?hQa3_4 ?hya3_4 (by assumption) ?hra3_4
          case hia3_4 => (simp only [List.getElem?_toArray, List.getElem?_cons_succ, List.getElem?_cons_zero]; rfl)
          case hQa3_4 => exact fun _ _ _ h => h
          case hya3_4 => (refine Or.inl ⟨by rfl, ?_⟩; intro w hSw; (try dsimp only at hSw); (go_simp <;> with_reducible rfl))
          (try simp only [Act.put, List.setIfInBounds_toArray, List.set_cons_zero, List.set_cons_succ])
          refine wpAnyH_take (i := 4) (oi := ?oia4_5) (v := ?va4_5) ?hia4_5 (by kernel_rfl) (by kernel_rfl) (by kernel_rfl) ?hQa4_5 ?hya4_5 (by assumption) ?hra4_5
          case hia4_5 => (simp only [List.getElem?_toArray, List.getElem?_cons_succ, List.getElem?_cons_zero]; rfl)
          case hQa4_5 => exact fun _ _ _ h => h
          case hya4_5 => (refine Or.inl ⟨by rfl, ?_⟩; intro w hSw; (try dsimp only at hSw); (go_simp <;> with_reducible rfl))
          (try simp only [Act.put, List.setIfInBounds_toArray, List.set_cons_zero, List.set_cons_succ])
          refine wpAnyH_take (i := 5) (oi := ?oia5_6) (v := ?va5_6) ?hia5_6 (by kernel_rfl) (by kernel_rfl) (by kernel_rfl) ?hQa5_6 ?hya5_6 (by assumption) ?hra5_6
          case hia5_6 => (simp only [List.getElem?_toArray, List.getElem?_cons_succ, List.getElem?_cons_zero]; rfl)
          case hQa5_6 => exact fun _ _ _ h => h
          case hya5_6 => (refine Or.inl ⟨by rfl, ?_⟩; intro w hSw; (try dsimp only at hSw); (go_simp <;> with_reducible rfl))
          (try simp only [Act.put, List.setIfInBounds_toArray, List.set_cons_zero, List.set_cons_succ])
          refine wpAnyH_take (i := 6) (oi := ?oia6_7) (v := ?va6_7) ?hia6_7 (by kernel_rfl) (by kernel_rfl) (by kernel_rfl) ?hQa6_7 ?hya6_7 (by assumption) ?hra6_7
          case hia6_7 => (simp only [List.getElem?_toArray, List.getElem?_cons_succ, List.getElem?_cons_zero]; rfl)
          case hQa6_7 => exact fun _ _ _ h => h
          case hya6_7 => (refine Or.inl ⟨by rfl, ?_⟩; intro w hSw; (try dsimp only at hSw); (go_simp <;> with_reducible rfl))
          (try simp only [Act.put, List.setIfInBounds_toArray, List.set_cons_zero, List.set_cons_succ])
          refine wpAnyH_take (i := 7) (oi := ?oia7_8) (v := ?va7_8) ?hia7_8 (by kernel_rfl) (by kernel_rfl) (by kernel_rfl) ?hQa7_8 ?hya7_8 (by assumption) ?hra7_8
          case hia7_8 => (simp only [List.getElem?_toArray, List.getElem?_cons_succ, List.getElem?_cons_zero]; rfl)
          case hQa7_8 => exact fun _ _ _ h => h
          case hya7_8 => (refine Or.inl ⟨by rfl, ?_⟩; intro w hSw; (try dsimp only at hSw); (go_simp <;> with_reducible rfl))
          (try simp only [Act.put, List.setIfInBounds_toArray, List.set_cons_zero, List.set_cons_succ])
          refine wpAnyH_take (i := 8) (oi := ?oia8_9) (v := ?va8_9) ?hia8_9 (by kernel_rfl) (by kernel_rfl) (by kernel_rfl) ?hQa8_9 ?hya8_9 (by assumption) ?hra8_9
          case hia8_9 => (simp only [List.getElem?_toArray, List.getElem?_cons_succ, List.getElem?_cons_zero]; rfl)
          case hQa8_9 => exact fun _ _ _ h => h
          case hya8_9 => (refine Or.inl ⟨by rfl, ?_⟩; intro w hSw; (try dsimp only at hSw); (go_simp <;> with_reducible rfl))
          (try simp only [Act.put, List.setIfInBounds_toArray, List.set_cons_zero, List.set_cons_succ])
          refine wpAnyH_take (i := 9) (oi := ?oia9_10) (v := ?va9_10) ?hia9_10 (by kernel_rfl) (by kernel_rfl) (by kernel_rfl) ?hQa9_10 ?hya9_10 (by assumption) ?hra9_10
          case hia9_10 => (simp only [List.getElem?_toArray, List.getElem?_cons_succ, List.getElem?_cons_zero]; rfl)
          case hQa9_10 => exact fun _ _ _ h => h
          case hya9_10 => (refine Or.inl ⟨by rfl, ?_⟩; intro w hSw; (try dsimp only at hSw); (go_simp <;> with_reducible rfl))
          (try simp only [Act.put, List.setIfInBounds_toArray, List.set_cons_zero, List.set_cons_succ])
          refine wpAnyH_take (i := 10) (oi := ?oia10_11) (v := ?va10_11) ?hia10_11 (by kernel_rfl) (by kernel_rfl) (by kernel_rfl) ?hQa10_11 ?hya10_11 (by assumption) ?hra10_11
          case hia10_11 => (simp only [List.getElem?_toArray, List.getElem?_cons_succ, List.getElem?_cons_zero]; rfl)
          case hQa10_11 => exact fun _ _ _ h => h
          case hya10_11 => (refine Or.inl ⟨by rfl, ?_⟩; intro w hSw; (try dsimp only at hSw); (go_simp <;> with_reducible rfl))
          (try simp only [Act.put, List.setIfInBounds_toArray, List.set_cons_zero, List.set_cons_succ])
          refine wpAnyH_take (i := 11) (oi := ?oia11_12) (v := ?va11_12) ?hia11_12 (by kernel_rfl) (by kernel_rfl) (by kernel_rfl) ?hQa11_12 ?hya11_12 (by assumption) ?hra11_12
          case hia11_12 => (simp only [List.getElem?_toArray, List.getElem?_cons_succ, List.getElem?_cons_zero]; rfl)
          case hQa11_12 => exact fun _ _ _ h => h
          case hya11_12 => (refine Or.inl ⟨by rfl, ?_⟩; intro w hSw; (try dsimp only at hSw); (go_simp <;> with_reducible rfl))
          (try simp only [Act.put, List.setIfInBounds_toArray, List.set_cons_zero, List.set_cons_succ])
          refine wpAnyH_take (i := 12) (oi := ?oia12_13) (v := ?va12_13) ?hia12_13 (by kernel_rfl) (by kernel_rfl) (by kernel_rfl) ?hQa12_13 ?hya12_13 (by assumption) ?hra12_13
          case hia12_13 => (simp only [List.getElem?_toArray, List.getElem?_cons_succ, List.getElem?_cons_zero]; rfl)
          case hQa12_13 => exact fun _ _ _ h => h
          case hya12_13 => (refine Or.inl ⟨by rfl, ?_⟩; intro w hSw; (try dsimp only at hSw); (go_simp <;> with_reducible rfl))
          (try simp only [Act.put, List.setIfInBounds_toArray, List.set_cons_zero, List.set_cons_succ])
          refine wpAnyH_take (i := 13) (oi := ?oia13_14) (v := ?va13_14) ?hia13_14 (by kernel_rfl) (by kernel_rfl) (by kernel_rfl) ?hQa13_14 ?hya13_14 (by assumption) ?hra13_14
          case hia13_14 => (simp only [List.getElem?_toArray, List.getElem?_cons_succ, List.getElem?_cons_zero]; rfl)
          case hQa13_14 => exact fun _ _ _ h => h
          case hya13_14 => (refine Or.inl ⟨by rfl, ?_⟩; intro w hSw; (try dsimp only at hSw); (go_simp <;> with_reducible rfl))
          (try simp only [Act.put, List.setIfInBounds_toArray, List.set_cons_zero, List.set_cons_succ])
          refine wpAnyH_take (i := 14) (oi := ?oia14_15) (v := ?va14_15) ?hia14_15 (by kernel_rfl) (by kernel_rfl) (by kernel_rfl) ?hQa14_15 ?hya14_15 (by assumption) ?hra14_15
          case hia14_15 => (simp only [List.getElem?_toArray, List.getElem?_cons_succ, List.getElem?_cons_zero]; rfl)
          case hQa14_15 => exact fun _ _ _ h => h
          case hya14_15 => (refine Or.inl ⟨by rfl, ?_⟩; intro w hSw; (try dsimp only at hSw); (go_simp <;> with_reducible rfl))
          (try simp only [Act.put, List.setIfInBounds_toArray, List.set_cons_zero, List.set_cons_succ])
          refine wpAnyH_take (i := 15) (oi := ?oia15_16) (v := ?va15_16) ?hia15_16 (by kernel_rfl) (by kernel_rfl) (by kernel_rfl) ?hQa15_16 ?hya15_16 (by assumption) ?hra15_16
          case hia15_16 => (simp only [List.getElem?_toArray, List.getElem?_cons_succ, List.getElem?_cons_zero]; rfl)
          case hQa15_16 => exact fun _ _ _ h => h
          case hya15_16 => (refine Or.inl ⟨by rfl, ?_⟩; intro w hSw; (try dsimp only at hSw); (go_simp <;> with_reducible rfl))
          (try simp only [Act.put, List.setIfInBounds_toArray, List.set_cons_zero, List.set_cons_succ])
          refine wpAnyH_take (i := 16) (oi := ?oia16_17) (v := ?va16_17) ?hia16_17 (by kernel_rfl) (by kernel_rfl) (by kernel_rfl) ?hQa16_17 ?hya16_17 (by assumption) ?hra16_17
          case hia16_17 => (simp only [List.getElem?_toArray, List.getElem?_cons_succ, List.getElem?_cons_zero]; rfl)
          case hQa16_17 => exact fun _ _ _ h => h
          case hya16_17 => (refine Or.inl ⟨by rfl, ?_⟩; intro w hSw; (try dsimp only at hSw); (go_simp <;> with_reducible rfl))
          (try simp only [Act.put, List.setIfInBounds_toArray, List.set_cons_zero, List.set_cons_succ])
          refine wpAnyH_take (i := 17) (oi := ?oia17_18) (v := ?va17_18) ?hia17_18 (by kernel_rfl) (by kernel_rfl) (by kernel_rfl) ?hQa17_18 ?hya17_18 (by assumption) ?hra17_18
          case hia17_18 => (simp only [List.getElem?_toArray, List.getElem?_cons_succ, List.getElem?_cons_zero]; rfl)
          case hQa17_18 => exact fun _ _ _ h => h
          case hya17_18 => (refine Or.inl ⟨by rfl, ?_⟩; intro w hSw; (try dsimp only at hSw); (go_simp <;> with_reducible rfl))
          (try simp only [Act.put, List.setIfInBounds_toArray, List.set_cons_zero, List.set_cons_succ])
          refine wpAnyH_take (i := 18) (oi := ?oia18_19) (v := ?va18_19) ?hia18_19 (by kernel_rfl) (by kernel_rfl) (by kernel_rfl) ?hQa18_19 ?hya18_19 (by assumption) ?hra18_19
          case hia18_19 => (simp only [List.getElem?_toArray, List.getElem?_cons_succ, List.getElem?_cons_zero]; rfl)
          case hQa18_19 => exact fun _ _ _ h => h
          case hya18_19 => (refine Or.inl ⟨by rfl, ?_⟩; intro w hSw; (try dsimp only at hSw); (go_simp <;> with_reducible rfl))
          (try simp only [Act.put, List.setIfInBounds_toArray, List.set_cons_zero, List.set_cons_succ])
          refine wpAnyH_take (i := 19) (oi := ?oia19_20) (v := ?va19_20) ?hia19_20 (by kernel_rfl) (by kernel_rfl) (by kernel_rfl) ?hQa19_20 ?hya19_20 (by assumption) ?hra19_20
          case hia19_20 => (simp only [List.getElem?_toArray, List.getElem?_cons_succ, List.getElem?_cons_zero]; rfl)
          case hQa19_20 => exact fun _ _ _ h => h
          case hya19_20 => (refine Or.inl ⟨by rfl, ?_⟩; intro w hSw; (try dsimp only at hSw); (go_simp <;> with_reducible rfl))
          (try simp only [Act.put, List.setIfInBounds_toArray, List.set_cons_zero, List.set_cons_succ])
          refine wpAnyH_take (i := 20) (oi := ?oia20_21) (v := ?va20_21) ?hia20_21 (by kernel_rfl) (by kernel_rfl) (by kernel_rfl) ?hQa20_21 ?hya20_21 (by assumption) ?hra20_21
          case hia20_21 => (simp only [List.getElem?_toArray, List.getElem?_cons_succ, List.getElem?_cons_zero]; rfl)
          case hQa20_21 => exact fun _ _ _ h => h
          case hya20_21 => (refine Or.inl ⟨by rfl, ?_⟩; intro w hSw; (try dsimp only at hSw); (go_simp <;> with_reducible rfl))
          (try simp only [Act.put, List.setIfInBounds_toArray, List.set_cons_zero, List.set_cons_succ])
          refine wpAnyH_ready (rs := [21]) (by kernel_rfl) (by simp) ?_
          refine AllReadyH.cons (o := ?oia21_22) ?hia21_22 ?haa21_22 ?hna21_22
          case hia21_22 => (simp only [List.getElem?_toArray, List.getElem?_cons_succ, List.getElem?_cons_zero]; rfl)
          case haa21_22 =>
            intro K hK
            go_simp
            (first | refine lit_v ?_ | refine lit_vd ?_)
            intro W7 hb7 hz7 KB
            have RB := Lib.hid (show Row W7 1 _ 4 (ints [x, y, z, u]) from KB.row1 rfl)
            replace B := B.trans (hb7.mono B.size)
            replace HO := Lib.hid (HO.out.below hb7 (.inr (Nat.le_refl _)))
            clear hb7 KB
            refine hK.out _ _ ((by simpa using (H1.out.below4 B (Nat.le_refl _)).get4_ HG.out)) (fun hHeld => ?_)
            clear hK K
            (try simp only [Act.put, List.setIfInBounds_toArray, List.set_cons_zero, List.set_cons_succ])
            refine wpAnyH_ready (rs := [22]) (by kernel_rfl) (by simp) ?_
            refine AllReadyH.cons (o := ?oia22_23) ?hia22_23 ?haa22_23 ?hna22_23
            case hia22_23 => (simp only [List.getElem?_toArray, List.getElem?_cons_succ, List.getElem?_cons_zero]; rfl)
            case haa22_23 =>
              intro K hK
              go_simp
              go_at_call 33
              refine (l01Join_any 32 _ _ _ [x, y, z, u] _ RB.out (by omega) hb4).mono ?_
              rintro e w8 ⟨rfl, hb⟩
              rw [HP.out]
              replace B := B.trans (hb.mono B.size)
              replace HO := Lib.hid (HO.out.below hb (.inr (Nat.le_refl _)))
              clear hb RB
              refine hK.out _ _ ((by simpa using (H1.out.below4 B (Nat.le_refl _)).get4_ HG.out)) (fun hHeld => ?_)
              clear hK K
              (try simp only [Act.put, List.setIfInBounds_toArray, List.set_cons_zero, List.set_cons_succ])
              refine wpAnyH_ready (rs := [23]) (by kernel_rfl) (by simp) ?_
              refine AllReadyH.cons (o := ?oia23_24) ?hia23_24 ?haa23_24 ?hna23_24
              case hia23_24 => (simp only [List.getElem?_toArray, List.getElem?_cons_succ, List.getElem?_cons_zero]; rfl)
              case haa23_24 =>
                intro K hK
                refine step_app_str _ (by rfl) (.tmp 20) (.tmp 42) _ _ (by rfl) Tryz.underlying22 Tryz.underlying9 info_u8 (by rfl) HO.out (str P) (by rfl) (by rw [str_size]; simp only [maxLen]; have := hbl; omega) (by rw [str_size]; have := hbl; omega) B.size ?_
                intro A2 c2 w9 hown9 hb9 hg9
                rw [str_size, strCells_str, ← byts_app, ← List.length_append] at hown9
                rw [str_size, ← List.length_append]
                obtain ⟨b9, rfl, -, -, -⟩ := hown9.head (by rw [List.length_append]; have := hPp; omega)
                have O9 := Lib.hid hown9.leave
                replace B := B.trans hb9
                clear hown9 hb9 hg9 HO
                refine hK.out _ _ ((by simpa using (H1.out.below4 B (Nat.le_refl _)).get4_ HG.out)) (fun hHeld => ?_)
                clear hK K
                (try simp only [Act.put, List.setIfInBounds_toArray, List.set_cons_zero, List.set_cons_succ])
                refine wpAnyH_take (i := 24) (oi := ?oia24_25) (v := ?va24_25) ?hia24_25 (by kernel_rfl) (by kernel_rfl) (by kernel_rfl) ?hQa24_25 ?hya24_25 (by assumption) ?hra24_25
                case hia24_25 => (simp only [List.getElem?_toArray, List.getElem?_cons_succ, List.getElem?_cons_zero]; rfl)
                case hQa24_25 => exact fun _ _ _ h => h
                case hya24_25 => (refine Or.inl ⟨by rfl, ?_⟩; intro w hSw; (try dsimp only at hSw); (go_simp <;> with_reducible rfl))
                (try simp only [Act.put, List.setIfInBounds_toArray, List.set_cons_zero, List.set_cons_succ])
                refine wpAnyH_done (by kernel_rfl) ?_ _
                go_wp2
                go_roundw
                case rel => exact ⟨0 + 1, c2, b9, [] ++ P, rfl, by go_num, by omega, H2, O9, B⟩
                case measure => simp [intOf] <;> omega
              case hna23_24 =>
                exact AllReadyH.nil
            case hna22_23 =>
              exact AllReadyH.nil
          case hna21_22 =>
            exact AllReadyH.nil
        · have hk0I : (0 : Int) < (k : Int) := by omega
          have H2 := Lib.hid (show out ++ [59] ++ P = joinB 59 ((ss.map sndTxt).take (k + 1)) by
            have h1 : (ss.map sndTxt).length = n := by rw [List.length_map]; exact H1.out.len4
            rw [take_snoc HT.out, joinB_snoc 59 P _ (fun e => by have h3 := congrArg List.length e; rw [List.length_take, h1] at h3; simp at h3; omega), ← HX.out])
          have hPp : 0 < P.length := by rw [← HP.out]; exact List.length_pos_iff.2 (sndTxt_ne (x, y, z, u))
          clear HX HT
          go_upto_region 9 with (at_builtin; refine wpList_app _ rfl (.tmp 17) (.tmp 18) _ rfl Tryz.underlying22 info_u8 rfl (by decide) rfl (HO.out.alloc _) rfl (Row.one _ _ _) (byts_one [59]) (by decide) (by simp only [maxLen]; omega) (by omega) (by simp; omega) ?_; intro A5 c5 w5 hown5 hb5 hg5)
          obtain ⟨b5, rfl, -, -, -⟩ := hown5.head (by omega)
          have O5 := Lib.hid (show Own w5 w1.heap.size w5.heap.size 5 1 (some ⟨b5, 0, none⟩) (out.length + 1) c5 (byts (out ++ [59])) by rw [byts_app]; exact hown5)
          replace B := (B.alloc B.size (.cells #[.int .u8 59] 5)).trans hb5
          have hbl : out.length + 1 ≤ 17801 := by omega
          clear hown5 hb5 hg5 HO
          replace B := B.drew
          have HO := Lib.hid (O5.out.below (Below.refl _ _).drew (.inr (Nat.le_refl _)))
          clear O5
          refine wp_region_held_drew (S := fun w' => w'.cell? ⟨b, off + k * 4, none⟩ = some (.int .i64 x) ∧ w'.cell? ⟨b, off + k * 4 + 1, none⟩ = some (.int .i64 y) ∧ w'.cell? ⟨b, off + k * 4 + 2, none⟩ = some (.int .i64 z) ∧ w'.cell? ⟨b, off + k * 4 + 3, none⟩ = some (.int .i64 u)) (by kernel_rfl) ((H1.out.below4 B (Nat.le_refl _)).get4_ HG.out) (fun hHeld => ?_)
          refine wpAnyH_take (i := 0) (oi := ?oib0_1) (v := ?vb0_1) ?hib0_1 (by kernel_rfl) (by kernel_rfl) (by kernel_rfl) ?hQb0_1 ?hyb0_1 (by assumption) ?hrb0_1
          case hib0_1 => (simp only [List.getElem?_toArray, List.getElem?_cons_succ, List.getElem?_cons_zero]; rfl)
          case hQb0_1 => exact fun _ _ _ h => h
          case hyb0_1 => (refine Or.inl ⟨by rfl, ?_⟩; intro w hSw; (try dsimp only at hSw); (go_simp <;> with_reducible rfl))
          (try simp only [Act.put, List.setIfInBounds_toArray, List.set_cons_zero, List.set_cons_succ])
          refine wpAnyH_take (i := 1) (oi := ?oib1_2) (v := ?vb1_2) ?hib1_2 (by kernel_rfl) (by kernel_rfl) (by kernel_rfl) ?hQb1_2 ?hyb1_2 (by assumption) ?hrb1_2
          case hib1_2 => (simp only [List.getElem?_toArray, List.getElem?_cons_succ, List.getElem?_cons_zero]; rfl)
          case hQb1_2 => exact fun _ _ _ h => h
          case hyb1_2 => (refine Or.inl ⟨by rfl, ?_⟩; intro w hSw; (try dsimp only at hSw); (go_simp <;> with_reducible rfl))
          (try simp only [Act.put, List.setIfInBounds_toArray, List.set_cons_zero, List.set_cons_succ])
          refine wpAnyH_take (i := 2) (oi := ?oib2_3) (v := ?vb2_3) ?hib2_3 (by kernel_rfl) (by kernel_rfl) (by kernel_rfl) ?hQb2_3 ?hyb2_3 (by assumption) ?hrb2_3
          case hib2_3 => (simp only [List.getElem?_toArray, List.getElem?_cons_succ, List.getElem?_cons_zero]; rfl)
          case hQb2_3 => exact fun _ _ _ h => h
          case hyb2_3 => (refine Or.inl ⟨by rfl, ?_⟩; intro w hSw; (try dsimp only at hSw); (go_simp <;> with_reducible rfl))
          (try simp only [Act.put, List.setIfInBounds_toArray, List.set_cons_zero, List.set_cons_succ])
          refine wpAnyH_take (i := 3) (oi := ?oib3_4) (v := ?vb3_4) ?hib3_4 (by kernel_rfl) (by kernel_rfl) (by kernel_rfl) ?hQb3_4 ?hyb3_4 (by assumption) ?hrb3_4
          case hib3_4 => (simp only [List.getElem?_toArray, List.getElem?_cons_succ, List.getElem?_cons_zero]; rfl)
          case hQb3_4 => exact fun _ _ _ h => h
          case hyb3_4 => (refine Or.inl ⟨by rfl, ?_⟩; intro w hSw; (try dsimp only at hSw); (go_simp <;> with_reducible rfl))
          (try simp only [Act.put, List.setIfInBounds_toArray, List.set_cons_zero, List.set_cons_succ])
          refine wpAnyH_take (i := 4) (oi := ?oib4_5) (v := ?vb4_5) ?hib4_5 (by kernel_rfl) (by kernel_rfl) (by kernel_rfl) ?hQb4_5 ?hyb4_5 (by assumption) ?hrb4_5
          case hib4_5 => (simp only [List.getElem?_toArray, List.getElem?_cons_succ, List.getElem?_cons_zero]; rfl)
          case hQb4_5 => exact fun _ _ _ h => h
          case hyb4_5 => (refine Or.inl ⟨by rfl, ?_⟩; intro w hSw; (try dsimp only at hSw); (go_simp <;> with_reducible rfl))
          (try simp only [Act.put, List.setIfInBounds_toArray, List.set_cons_zero, List.set_cons_succ])
          refine wpAnyH_take (i := 5) (oi := ?oib5_6) (v := ?vb5_6) ?hib5_6 (by kernel_rfl) (by kernel_rfl) (by kernel_rfl) ?hQb5_6 ?hyb5_6 (by assumption) ?hrb5_6
          case hib5_6 => (simp only [List.getElem?_toArray, List.getElem?_cons_succ, List.getElem?_cons_zero]; rfl)
          case hQb5_6 => exact fun _ _ _ h => h
          case hyb5_6 => (refine Or.inl ⟨by rfl, ?_⟩; intro w hSw; (try dsimp only at hSw); (go_simp <;> with_reducible rfl))
          (try simp only [Act.put, List.setIfInBounds_toArray, List.set_cons_zero, List.set_cons_succ])
          refine wpAnyH_take (i := 6) (oi := ?oib6_7) (v := ?vb6_7) ?hib6_7 (by kernel_rfl) (by kernel_rfl) (by kernel_rfl) ?hQb6_7 ?hyb6_7 (by assumption) ?hrb6_7
          case hib6_7 => (simp only [List.getElem?_toArray, List.getElem?_cons_succ, List.getElem?_cons_zero]; rfl)
          case hQb6_7 => exact fun _ _ _ h => h
          case hyb6_7 => (refine Or.inl ⟨by rfl, ?_⟩; intro w hSw; (try dsimp only at hSw); (go_simp <;> with_reducible rfl))
          (try simp only [Act.put, List.setIfInBounds_toArray, List.set_cons_zero, List.set_cons_succ])
          refine wpAnyH_take (i := 7) (oi := ?oib7_8) (v := ?vb7_8) ?hib7_8 (by kernel_rfl) (by kernel_rfl) (by kernel_rfl) ?hQb7_8 ?hyb7_8 (by assumption) ?hrb7_8
          case hib7_8 => (simp only [List.getElem?_toArray, List.getElem?_cons_succ, List.getElem?_cons_zero]; rfl)
          case hQb7_8 => exact fun _ _ _ h => h
          case hyb7_8 => (refine Or.inl ⟨by rfl, ?_⟩; intro w hSw; (try dsimp only at hSw); (go_simp <;> with_reducible rfl))
          (try simp only [Act.put, List.setIfInBounds_toArray, List.set_cons_zero, List.set_cons_succ])
          refine wpAnyH_take (i := 8) (oi := ?oib8_9) (v := ?vb8_9) ?hib8_9 (by kernel_rfl) (by kernel_rfl) (by kernel_rfl) ?hQb8_9 ?hyb8_9 (by assumption) ?hrb8_9
          case hib8_9 => (simp only [List.getElem?_toArray, List.getElem?_cons_succ, List.getElem?_cons_zero]; rfl)
          case hQb8_9 => exact fun _ _ _ h => h
          case hyb8_9 => (refine Or.inl ⟨by rfl, ?_⟩; intro w hSw; (try dsimp only at hSw); (go_simp <;> with_reducible rfl))
          (try simp only [Act.put, List.setIfInBounds_toArray, List.set_cons_zero, List.set_cons_succ])
          refine wpAnyH_take (i := 9) (oi := ?oib9_10) (v := ?vb9_10) ?hib9_10 (by kernel_rfl) (by kernel_rfl) (by kernel_rfl) ?hQb9_10 ?hyb9_10 (by assumption) ?hrb9_10
          case hib9_10 => (simp only [List.getElem?_toArray, List.getElem?_cons_succ, List.getElem?_cons_zero]; rfl)
          case hQb9_10 => exact fun _ _ _ h => h
          case hyb9_10 => (refine Or.inl ⟨by rfl, ?_⟩; intro w hSw; (try dsimp only at hSw); (go_simp <;> with_reducible rfl))
          (try simp only [Act.put, List.setIfInBounds_toArray, List.set_cons_zero, List.set_cons_succ])
          refine wpAnyH_take (i := 10) (oi := ?oib10_11) (v := ?vb10_11) ?hib10_11 (by kernel_rfl) (by kernel_rfl) (by kernel_rfl) ?hQb10_11 ?hyb10_11 (by assumption) ?hrb10_11
          case hib10_11 => (simp only [List.getElem?_toArray, List.getElem?_cons_succ, List.getElem?_cons_zero]; rfl)
          case hQb10_11 => exact fun _ _ _ h => h
          case hyb10_11 => (refine Or.inl ⟨by rfl, ?_⟩; intro w hSw; (try dsimp only at hSw); (go_simp <;> with_reducible rfl))
          (try simp only [Act.put, List.setIfInBounds_toArray, List.set_cons_zero, List.set_cons_succ])
          refine wpAnyH_take (i := 11) (oi := ?oib11_12) (v := ?vb11_12) ?hib11_12 (by kernel_rfl) (by kernel_rfl) (by kernel_rfl) ?hQb11_12 ?hyb11_12 (by assumption) ?hrb11_12
          case hib11_12 => (simp only [List.getElem?_toArray, List.getElem?_cons_succ, List.getElem?_cons_zero]; rfl)
          case hQb11_12 => exact fun _ _ _ h => h
          case hyb11_12 => (refine Or.inl ⟨by rfl, ?_⟩; intro w hSw; (try dsimp only at hSw); (go_simp <;> with_reducible rfl))
          (try simp only [Act.put, List.setIfInBounds_toArray, List.set_cons_zero, List.set_cons_succ])
          refine wpAnyH_take (i := 12) (oi := ?oib12_13) (v := ?vb12_13) ?hib12_13 (by kernel_rfl) (by kernel_rfl) (by kernel_rfl) ?hQb12_13 ?hyb12_13 (by assumption) ?hrb12_13
          case hib12_13 => (simp only [List.getElem?_toArray, List.getElem?_cons_succ, List.getElem?_cons_zero]; rfl)
          case hQb12_13 => exact fun _ _ _ h => h
          case hyb12_13 => (refine Or.inl ⟨by rfl, ?_⟩; intro w hSw; (try dsimp only at hSw); (go_simp <;> with_reducible rfl))
          (try simp only [Act.put, List.setIfInBounds_toArray, List.set_cons_zero, List.set_cons_succ])
          refine wpAnyH_take (i := 13) (oi := ?oib13_14) (v := ?vb13_14) ?hib13_14 (by kernel_rfl) (by kernel_rfl) (by kernel_rfl) ?hQb13_14 ?hyb13_14 (by assumption) ?hrb13_14
          case hib13_14 => (simp only [List.getElem?_toArray, List.getElem?_cons_succ, List.getElem?_cons_zero]; rfl)
          case hQb13_14 => exact fun _ _ _ h => h
          case hyb13_14 => (refine Or.inl ⟨by rfl, ?_⟩; intro w hSw; (try dsimp only at hSw); (go_simp <;> with_reducible rfl))
          (try simp only [Act.put, List.setIfInBounds_toArray, List.set_cons_zero, List.set_cons_succ])
          refine wpAnyH_take (i := 14) (oi := ?oib14_15) (v := ?vb14_15) ?hib14_15 (by kernel_rfl) (by kernel_rfl) (by kernel_rfl) ?hQb14_15 ?hyb14_15 (by assumption) ?hrb14_15
          case hib14_15 => (simp only [List.getElem?_toArray, List.getElem?_cons_succ, List.getElem?_cons_zero]; rfl)
          case hQb14_15 => exact fun _ _ _ h => h
          case hyb14_15 => (refine Or.inl ⟨by rfl, ?_⟩; intro w hSw; (try dsimp only at hSw); (go_simp <;> with_reducible rfl))
          (try simp only [Act.put, List.setIfInBounds_toArray, List.set_cons_zero, List.set_cons_succ])
          refine wpAnyH_take (i := 15) (oi := ?oib15_16) (v := ?vb15_16) ?hib15_16 (by kernel_rfl) (by kernel_rfl) (by kernel_rfl) ?hQb15_16 ?hyb15_16 (by assumption) ?hrb15_16
          case hib15_16 => (simp only [List.getElem?_toArray, List.getElem?_cons_succ, List.getElem?_cons_zero]; rfl)
          case hQb15_16 => exact fun _ _ _ h => h
          case hyb15_16 => (refine Or.inl ⟨by rfl, ?_⟩; intro w hSw; (try dsimp only at hSw); (go_simp <;> with_reducible rfl))
          (try simp only [Act.put, List.setIfInBounds_toArray, List.set_cons_zero, List.set_cons_succ])
          refine wpAnyH_take (i := 16) (oi := ?oib16_17) (v := ?vb16_17) ?hib16_17 (by kernel_rfl) (by kernel_rfl) (by kernel_rfl) ?hQb16_17 ?hyb16_17 (by assumption) ?hrb16_17
          case hib16_17 => (simp only [List.getElem?_toArray, List.getElem?_cons_succ, List.getElem?_cons_zero]; rfl)
          case hQb16_17 => exact fun _ _ _ h => h
          case hyb16_17 => (refine Or.inl ⟨by rfl, ?_⟩; intro w hSw; (try dsimp only at hSw); (go_simp <;> with_reducible rfl))
          (try simp only [Act.put, List.setIfInBounds_toArray, List.set_cons_zero, List.set_cons_succ])
          refine wpAnyH_take (i := 17) (oi := ?oib17_18) (v := ?vb17_18) ?hib17_18 (by kernel_rfl) (by kernel_rfl) (by kernel_rfl) ?hQb17_18 ?hyb17_18 (by assumption) ?hrb17_18
          case hib17_18 => (simp only [List.getElem?_toArray, List.getElem?_cons_succ, List.getElem?_cons_zero]; rfl)
          case hQb17_18 => exact fun _ _ _ h => h
          case hyb17_18 => (refine Or.inl ⟨by rfl, ?_⟩; intro w hSw; (try dsimp only at hSw); (go_simp <;> with_reducible rfl))
          (try simp only [Act.put, List.setIfInBounds_toArray, List.set_cons_zero, List.set_cons_succ])
          refine wpAnyH_take (i := 18) (oi := ?oib18_19) (v := ?vb18_19) ?hib18_19 (by kernel_rfl) (by kernel_rfl) (by kernel_rfl) ?hQb18_19 ?hyb18_19 (by assumption) ?hrb18_19
          case hib18_19 => (simp only [List.getElem?_toArray, List.getElem?_cons_succ, List.getElem?_cons_zero]; rfl)
          case hQb18_19 => exact fun _ _ _ h => h
          case hyb18_19 => (refine Or.inl ⟨by rfl, ?_⟩; intro w hSw; (try dsimp only at hSw); (go_simp <;> with_reducible rfl))
          (try simp only [Act.put, List.setIfInBounds_toArray, List.set_cons_zero, List.set_cons_succ])
          refine wpAnyH_take (i := 19) (oi := ?oib19_20) (v := ?vb19_20) ?hib19_20 (by kernel_rfl) (by kernel_rfl) (by kernel_rfl) ?hQb19_20 ?hyb19_20 (by assumption) ?hrb19_20
          case hib19_20 => (simp only [List.getElem?_toArray, List.getElem?_cons_succ, List.getElem?_cons_zero]; rfl)
          case hQb19_20 => exact fun _ _ _ h => h
          case hyb19_20 => (refine Or.inl ⟨by rfl, ?_⟩; intro w hSw; (try dsimp only at hSw); (go_simp <;> with_reducible rfl))
          (try simp only [Act.put, List.setIfInBounds_toArray, List.set_cons_zero, List.set_cons_succ])
          refine wpAnyH_take (i := 20) (oi := ?oib20_21) (v := ?vb20_21) ?hib20_21 (by kernel_rfl) (by kernel_rfl) (by kernel_rfl) ?hQb20_21 ?hyb20_21 (by assumption) ?hrb20_21
          case hib20_21 => (simp only [List.getElem?_toArray, List.getElem?_cons_succ, List.getElem?_cons_zero]; rfl)
          case hQb20_21 => exact fun _ _ _ h => h
          case hyb20_21 => (refine Or.inl ⟨by rfl, ?_⟩; intro w hSw; (try dsimp only at hSw); (go_simp <;> with_reducible rfl))
          (try simp only [Act.put, List.setIfInBounds_toArray, List.set_cons_zero, List.set_cons_succ])
          refine wpAnyH_ready (rs := [21]) (by kernel_rfl) (by simp) ?_
          refine AllReadyH.cons (o := ?oib21_22) ?hib21_22 ?hab21_22 ?hnb21_22
          case hib21_22 => (simp only [List.getElem?_toArray, List.getElem?_cons_succ, List.getElem?_cons_zero]; rfl)
          case hab21_22 =>
            intro K hK
            go_simp
            (first | refine lit_v ?_ | refine lit_vd ?_)
            intro W7 hb7 hz7 KB
            have RB := Lib.hid (show Row W7 1 _ 4 (ints [x, y, z, u]) from KB.row1 rfl)
            replace B := B.trans (hb7.mono B.size)
            replace HO := Lib.hid (HO.out.below hb7 (.inr (Nat.le_refl _)))
            clear hb7 KB
            refine hK.out _ _ ((H1.out.below4 B (Nat.le_refl _)).get4_ HG.out) (fun hHeld => ?_)
            clear hK K
            (try simp only [Act.put, List.setIfInBounds_toArray, List.set_cons_zero, List.set_cons_succ])
            refine wpAnyH_ready (rs := [22]) (by kernel_rfl) (by simp) ?_
            refine AllReadyH.cons (o := ?oib22_23) ?hib22_23 ?hab22_23 ?hnb22_23
            case hib22_23 => (simp only [List.getElem?_toArray, List.getElem?_cons_succ, List.getElem?_cons_zero]; rfl)
            case hab22_23 =>
              intro K hK
              go_simp
              go_at_call 33
              refine (l01Join_any 32 _ _ _ [x, y, z, u] _ RB.out (by omega) hb4).mono ?_
              rintro e w8 ⟨rfl, hb⟩
              rw [HP.out]
              replace B := B.trans (hb.mono B.size)
              replace HO := Lib.hid (HO.out.below hb (.inr (Nat.le_refl _)))
              clear hb RB
              refine hK.out _ _ ((H1.out.below4 B (Nat.le_refl _)).get4_ HG.out) (fun hHeld => ?_)
              clear hK K
              (try simp only [Act.put, List.setIfInBounds_toArray, List.set_cons_zero, List.set_cons_succ])
              refine wpAnyH_ready (rs := [23]) (by kernel_rfl) (by simp) ?_
              refine AllReadyH.cons (o := ?oib23_24) ?hib23_24 ?hab23_24 ?hnb23_24
              case hib23_24 => (simp only [List.getElem?_toArray, List.getElem?_cons_succ, List.getElem?_cons_zero]; rfl)
              case hab23_24 =>
                intro K hK
                refine step_app_str _ (by rfl) (.tmp 20) (.tmp 42) _ _ (by rfl) Tryz.underlying22 Tryz.underlying9 info_u8 (by rfl) HO.out (str P) (by rfl) (by rw [str_size]; simp only [maxLen]; have := hbl; omega) (by rw [str_size]; have := hbl; omega) B.size ?_
                intro A2 c2 w9 hown9 hb9 hg9
                have hown8 : Own w9 w1.heap.size w9.heap.size 5 1 A2 (out ++ [59] ++ P).length c2 (byts (out ++ [59] ++ P)) := by
                  have e1 : (out ++ [(59 : UInt8)] ++ P).length = out.length + 1 + (str P).size := by rw [str_size]; simp; omega
                  rw [byts_app (out ++ [59]) P, ← strCells_str P, e1]
                  exact hown9
                rw [str_size]
                obtain ⟨b9, rfl, -, -, -⟩ := hown8.head (by simp; omega)
                have O9 := Lib.hid hown8.leave
                clear hown8
                replace B := B.trans hb9
                clear hown9 hb9 hg9 HO
                refine hK.out _ _ ((H1.out.below4 B (Nat.le_refl _)).get4_ HG.out) (fun hHeld => ?_)
                clear hK K
                (try simp only [Act.put, List.setIfInBounds_toArray, List.set_cons_zero, List.set_cons_succ])
                refine wpAnyH_take (i := 24) (oi := ?oib24_25) (v := ?vb24_25) ?hib24_25 (by kernel_rfl) (by kernel_rfl) (by kernel_rfl) ?hQb24_25 ?hyb24_25 (by assumption) ?hrb24_25
                case hib24_25 => (simp only [List.getElem?_toArray, List.getElem?_cons_succ, List.getElem?_cons_zero]; rfl)
                case hQb24_25 => exact fun _ _ _ h => h
                case hyb24_25 => (refine Or.inl ⟨by rfl, ?_⟩; intro w hSw; (try dsimp only at hSw); (go_simp <;> with_reducible rfl))
                (try simp only [Act.put, List.setIfInBounds_toArray, List.set_cons_zero, List.set_cons_succ])
                refine wpAnyH_done (by kernel_rfl) ?_ _
                go_wp2
                go_roundw
                case rel => exact ⟨k + 1, c2, b9, out ++ [59] ++ P, by congr 1; simp <;> omega, by go_num, by omega, H2, O9, B⟩
                case measure => simp [intOf] <;> omega
              case hnb23_24 =>
                exact AllReadyH.nil
            case hnb22_23 =>
              exact AllReadyH.nil
          case hnb21_22 =>
            exact AllReadyH.nil
      · obtain rfl : k = n := by omega
        have HE := Lib.hid (show out = sndsTxt ss by rw [HX.out, List.take_of_length_le (by rw [List.length_map, H1.out.len4]; omega)]; rfl)
        have hcv := conv_byts wr b0 cp out HO.out.row
        clear HX HO
        go_wp2
        go_ret
        exact ⟨by rw [he.out, ← HE.out]; rfl, B0.out.trans (B.mono B0.out.size)⟩
end Go.Proofs.YtaimckepaldocaaGreatDoor
