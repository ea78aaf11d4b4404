/- The text of a list of soundings, as the program writes it. -/
import Derived.Test.YtaimckepaldocaaGreatDoorJoin
import Derived.Test.YtaimckepaldocaaGreatDoorDrawSnds
namespace Go.Proofs.YtaimckepaldocaaGreatDoor
open Go.RowKit
set_option maxRecDepth 100000
set_option linter.unusedVariables false
open Go.Lib (decDigits itoa)
set_option linter.unusedSimpArgs false
set_option linter.unusedVariables false

def txtOf (ss : List I4) : Txt := if sndsOk ss then sndsTxt ss else []
theorem ocap' {w : World} {lo hi E s n c : Nat} {a : Option Addr} {vs : List Value} (h : Own w lo hi E s a n c vs) : n ≤ c ∧ c ≤ maxLen := by
  rcases h.1.2 with ⟨hn, h0⟩ | ⟨g, cap, cur, hv, hb, h1, h2, h3, h4⟩
  · injection hn with h1 h2 h3; subst h3; omega
  · injection hv with h5 h6 h7; subst h7; omega
theorem snd_i64 {x y z u : Int} (h : sndOk (x, y, z, u) = true) : ∀ m ∈ [x, y, z, u], -9223372036854775808 ≤ m ∧ m ≤ 9223372036854775807 := by
  obtain ⟨h1, h2, h3, h4⟩ := sndOk_bd h
  intro m hm
  simp only [List.mem_cons, List.mem_nil_iff, or_false] at hm
  rcases hm with rfl | rfl | rfl | rfl <;> omega
theorem sndTxt_len {t : I4} (h : sndOk t = true) : (sndTxt t).length ≤ 88 := by
  have := joinB_len 32 21 ((four t).map itoa) (fun l hl => by
    obtain ⟨m, hm, rfl⟩ := List.mem_map.1 hl
    obtain ⟨x, y, z, u⟩ := t
    have := snd_i64 h m hm
    exact Go.Lib.itoa_length_le m this.1 this.2)
  simpa [four, sndTxt_four] using this
theorem sndsTxt_len {ss : List I4} (h : sndsOk ss = true) : (sndsTxt ss).length ≤ 17800 := by
  have h1 := joinB_len 59 88 (ss.map sndTxt) (fun l hl => by
    obtain ⟨t, ht, rfl⟩ := List.mem_map.1 hl
    obtain ⟨k, hk⟩ := List.mem_iff_getElem?.1 ht
    exact sndTxt_len (sndsOk_get h hk))
  rw [List.length_map] at h1
  have h2 := sndsOk_len h rfl
  have h3 : ss.length * 89 ≤ 200 * 89 := Nat.mul_le_mul_right _ h2
  show (joinB 59 (ss.map sndTxt)).length ≤ 17800
  omega

set_option maxHeartbeats 3200000 in
theorem soundingsText_impl (a0 : Option Addr) (n c0 : Nat) (ss : List I4) (w : World) (h : Row w 4 a0 n (frs ss)) (hn : n ≤ 1048576) (G : GV w) :
    Calls Tryz.prog 8 #[.slice a0 n c0] w fun e w' => e = .returned (.string (str (txtOf ss))) ∧ Below w.heap.size w w' := by
  have H := Lib.hid h
  have HG := Lib.hid G
  clear h G
  go_enter Tryz.func8, Tryz.ntmps8
  go_wp2_with fail
  go_at_call 15
  refine (areSoundings_impl _ _ _ _ _ H.out hn).mono ?_
  rintro e w1 ⟨rfl, hb⟩
  have B0 := Lib.hid hb
  have H1 := Lib.hid (H.out.below4 hb (Nat.le_refl _))
  have G1 := Lib.hid (HG.out.below hb)
  clear hb H HG
  cases hok : sndsOk ss with
  | false =>
    have he := Lib.hid (show txtOf ss = [] by rw [txtOf, hok]; rfl)
    clear hok
    go_wp2
    go_ret
    exact ⟨by rw [he.out]; rfl, B0.out⟩
  | true =>
    have he := Lib.hid (show txtOf ss = sndsTxt ss by rw [txtOf, hok]; rfl)
    have HOK := Lib.hid hok
    have hn2 := sndsOk_len hok H1.out.len4
    clear hok
    have O0 := Lib.hid (Own.nil_ w1 w1.heap.size w1.heap.size 9 1)
    go_wp2
    go_loopw [3, 5, 11] (fun o _ i wr => ∃ (k cp : Nat) (a : Option Addr), o = .slice a k cp ∧ i = .int .i64 k ∧ k ≤ n ∧ Hid (Own wr w1.heap.size wr.heap.size 9 1 a k cp (strs ((ss.map sndTxt).take k))) ∧ Below w1.heap.size w1 wr) (fun _ _ i _ => n - (intOf i).toNat)
    case atStart => exact ⟨0, 0, none, rfl, rfl, by omega, O0, Below.refl _ _⟩
    case round =>
      clear O0
      obtain ⟨k, cp, a, rfl, rfl, hk, HO, B⟩ := hrel
      have hzB := B.size
      by_cases hlt : k < n
      · have hkI : (k : Int) < (n : Int) := by omega
        obtain ⟨b, off, x, y, z, u, rfl, hg, hx⟩ := (H1.out.below4 B (Nat.le_refl _)).at4 hlt
        obtain ⟨g0, g1, g2, g3⟩ := hg
        have hb4 := Lib.hid (snd_i64 (sndsOk_get HOK.out hx.out))
        have HX := Lib.hid (show (ss.map sndTxt)[k]? = some (sndTxt (x, y, z, u)) by rw [List.getElem?_map, hx.out]; rfl)
        have K := Lib.hid (Blk.new wr 38 #[.int .i64 x, .int .i64 y, .int .i64 z, .int .i64 u])
        have k0 := K.out.cell 0
        have k1 := K.out.cell 1
        have k2 := K.out.cell 2
        have k3 := K.out.cell 3
        clear hx K
        go_wp2_with fail
        have hba : Below wr.heap.size wr ((wr.alloc (.cells #[.int .i64 x, .int .i64 y, .int .i64 z, .int .i64 u] 38)).alloc (.cells #[.int .i64 x, .int .i64 y, .int .i64 z, .int .i64 u] 2)) := ((Below.refl _ _).alloc (Nat.le_refl _) _).alloc (by simp) _
        have HR := Lib.hid (Row.lit (wr.alloc (.cells #[.int .i64 x, .int .i64 y, .int .i64 z, .int .i64 u] 38)) (ints [x, y, z, u]) 2 (wr.heap.size + 1) 4 (by simp) (by rfl))
        clear k0 k1 k2 k3 g0 g1 g2 g3
        go_at_call 26
        refine (join_any 32 _ _ _ [x, y, z, u] _ HR.out (by omega) hb4 ((G1.out.below B).below hba)).mono ?_
        rintro e w5 ⟨rfl, hb5⟩
        have hz5 := hb5.size
        have hza := hba.size
        replace B := (B.trans (hba.mono B.size)).trans (hb5.mono (Nat.le_trans hzB hza))
        replace HO := Lib.hid ((HO.out.below hba (.inr (Nat.le_refl _))).below hb5 (.inr (Nat.le_refl _))).leave
        have hzz := B.size
        obtain ⟨P, hP⟩ : ∃ P, joinB 32 (List.map itoa [x, y, z, u]) = P := ⟨_, rfl⟩
        have HX2 := Lib.hid (show (ss.map sndTxt)[k]? = some P from hP ▸ HX.out)
        rw [hP]
        clear hba hb5 HR HX hP hb4
        go_wp2_with (at_builtin; refine wpList_app _ rfl (.tmp 15) (.tmp 26) _ rfl Tryz.underlying54 info_str rfl (by decide) rfl (HO.out.alloc _) rfl (Row.one _ _ _) (strs_one [P]) (by decide) (by simp only [maxLen]; omega) (by omega) (by simp; omega) ?_; intro A2 c2 w9 hown9 hb9 hg9)
        have O9 := Lib.hid (show Own w9 w1.heap.size w9.heap.size 9 1 A2 (k + 1) c2 (strs ((ss.map sndTxt).take (k + 1))) by rw [take_snoc HX2.out, strs_app]; exact hown9)
        have B9 := (B.alloc B.size (.cells #[.string (str P)] 9)).trans hb9
        clear hown9 hg9 HO hb9
        go_roundw
        case rel => exact ⟨k + 1, c2, A2, rfl, by go_num, by omega, O9, B9⟩
        case measure => simp [intOf] <;> omega
      · obtain rfl : k = n := by omega
        have hR := HO.out.row
        have hcap := (ocap' HO.out).1
        rw [List.take_of_length_le (by rw [List.length_map, H1.out.len4]; omega)] at hR
        have HR := Lib.hid hR
        have hl := Lib.hid (sndsTxt_len HOK.out)
        clear hR
        go_wp2_with fail
        go_at_call 27
        refine (joinS_any 59 _ _ _ (ss.map sndTxt) _ HR.out hcap hn (by have := hl.out; show (sndsTxt ss).length ≤ _; omega)).mono ?_
        rintro e w5 ⟨rfl, hb5⟩
        go_wp2
        go_ret
        exact ⟨by rw [he.out]; rfl, B0.out.trans ((B.trans (hb5.mono B.size)).mono B0.out.size)⟩
end Go.Proofs.YtaimckepaldocaaGreatDoor
