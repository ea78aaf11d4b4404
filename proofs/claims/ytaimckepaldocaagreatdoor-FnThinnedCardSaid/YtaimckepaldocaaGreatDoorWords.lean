/- Rows of texts; a text cut at a byte, as the library and the specification cut it. -/
import Derived.Test.YtaimckepaldocaaGreatDoorNum
namespace Go.Proofs.YtaimckepaldocaaGreatDoor
open Go.RowKit
set_option maxRecDepth 100000
set_option linter.unusedVariables false
open Go.Lib (decDigits itoa)
set_option linter.unusedSimpArgs false
set_option linter.unusedVariables false

def strs (ws : List Txt) : List Value := ws.map fun l => .string (str l)
theorem strs_length (ws : List Txt) : (strs ws).length = ws.length := by simp [strs]
theorem strs_one (ws : List Txt) : ∀ u ∈ strs ws, u.oneCell' = true := by
  intro u hu
  obtain ⟨l, _, rfl⟩ := List.mem_map.1 hu
  rfl
theorem strs_app (xs ys : List Txt) : strs (xs ++ ys) = strs xs ++ strs ys := by simp [strs]
theorem strs_get {ws : List Txt} {k : Nat} {l : Txt} (h : ws[k]? = some l) : (strs ws)[k]? = some (.string (str l)) := by simp [strs, h]
theorem info_str : (Tryz.prog.info? 9).map (fun i => (i.zero, i.size, i.bytes)) = some (some (.string ByteArray.empty), 1, 16) := by kernel_rfl
section
variable {w : World} {a : Option Addr} {n : Nat} {ws : List Txt}
theorem Row.lenS (h : Row w 1 a n (strs ws)) : ws.length = n := by have := h.1; rw [strs_length] at this; omega
theorem Row.getS {b off k : Nat} {l : Txt} (h : Row w 1 (some ⟨b, off, none⟩) n (strs ws)) (hx : ws[k]? = some l) : w.cell? ⟨b, off + k, none⟩ = some (.string (str l)) := by
  have hn : 0 < n := by have := h.lenS; have := (List.getElem?_eq_some_iff.1 hx).1; omega
  obtain ⟨b', off', e, hc⟩ := h.2 hn
  injection e with e
  injection e with e1 e2 _
  subst e1; subst e2
  exact hc k _ (strs_get hx)
theorem Row.atS {k : Nat} (h : Row w 1 a n (strs ws)) (hk : k < n) : ∃ b off l, a = some ⟨b, off, none⟩ ∧ w.cell? ⟨b, off + k, none⟩ = some (.string (str l)) ∧ Hid (ws[k]? = some l) := by
  have hl := h.lenS
  obtain ⟨b, off, e, -⟩ := h.2 (by omega)
  have hx : ws[k]? = some ws[k] := List.getElem?_eq_getElem (by omega)
  subst e
  exact ⟨b, off, ws[k], rfl, h.getS hx, hx⟩
end

theorem splitB_cut (c : UInt8) (s : ByteArray) : Go.Lib.splitB (str [c]) 0 (Go.Lib.countB s (str [c])) s = (cut c s.data.toList).map str ∧ Go.Lib.countB s (str [c]) + 1 = (cut c s.data.toList).length := by
  have hc : Go.Lib.countB s (str [c]) = s.data.toList.count c := by
    show Go.Lib.count s.data.toList (str [c]).data.toList = _
    rw [data_str, Go.Lib.count_one]
  refine ⟨?_, by rw [hc, cut_len]⟩
  have h := Go.Lib.splitB_data (str [c]) 0 (Go.Lib.countB s (str [c])) s
  rw [data_str, hc, splitK_cut c _ _ rfl] at h
  rw [hc, ← h, List.map_map]
  have : (str ∘ fun x : ByteArray => x.data.toList) = id := funext fun x => str_data x
  rw [this, List.map_id]

theorem split_any (c : UInt8) (s : ByteArray) (w : World) (hs : s.size ≤ 1048576) (G : GV w) :
    Calls Tryz.prog 28 #[.string s, .string (str [c])] w fun e w' => ∃ b, e = .returned (.slice (some ⟨b, 0, none⟩) (cut c s.data.toList).length (cut c s.data.toList).length) ∧ w.heap.size ≤ b ∧ Row w' 1 (some ⟨b, 0, none⟩) (cut c s.data.toList).length (strs (cut c s.data.toList)) ∧ Below w.heap.size w w' := by
  obtain ⟨m, hm⟩ := G.ml
  obtain ⟨h1, h2⟩ := splitB_cut c s
  refine (strings_Split s (str [c]) m w (by omega) hm (by rw [str_size]; simp)).mono ?_
  rintro e w' ⟨rfl, rfl⟩
  rw [h1, h2]
  refine ⟨w.heap.size, rfl, Nat.le_refl _, ?_, (Below.refl _ _).alloc (Nat.le_refl _) _⟩
  rw [List.map_map]
  exact Row.lit _ (strs (cut c s.data.toList)) _ _ _ rfl (by rw [strs_length])

theorem ext_str (s : ByteArray) (f k : Nat) : s.extract f k = str ((s.data.toList.drop f).take (k - f)) := by
  rw [← Go.Lib.extract_data, str_data]

/-- The loop that cuts: k bytes seen, the present piece begins at f, the pieces before it are ws. -/
def SplInv (c : UInt8) (l : Txt) (k f : Nat) (ws : List Txt) : Prop := (k ≤ l.length → f ≤ k ∧ cut c l = ws ++ cut c (l.drop f) ∧ c ∉ (l.drop f).take (k - f)) ∧ (l.length < k → cut c l = ws)
theorem SplInv.start (c : UInt8) (l : Txt) : SplInv c l 0 0 [] := ⟨fun _ => ⟨by omega, by simp, by simp⟩, fun h => by omega⟩
theorem SplInv.cutAt {c : UInt8} {l : Txt} {k f : Nat} {ws : List Txt} (h : SplInv c l k f ws) (hk : l[k]? = some c) : SplInv c l (k + 1) (k + 1) (ws ++ [(l.drop f).take (k - f)]) := by
  have hlt := (List.getElem?_eq_some_iff.1 hk).1
  obtain ⟨h1, h2, h3⟩ := h.1 (by omega)
  have e : l.drop f = (l.drop f).take (k - f) ++ c :: l.drop (k + 1) := by
    conv => lhs; rw [← List.take_append_drop (k - f) (l.drop f)]
    congr 1
    rw [List.drop_drop, show f + (k - f) = k by omega]
    exact drop_at hk
  have h4 : cut c l = (ws ++ [(l.drop f).take (k - f)]) ++ cut c (l.drop (k + 1)) := by
    rw [h2]
    conv => lhs; rw [e]
    rw [cut_sep c _ _ h3]; simp
  exact ⟨fun _ => ⟨Nat.le_refl _, h4, by simp⟩, fun hh => by omega⟩
theorem SplInv.cutEnd {c : UInt8} {l : Txt} {f : Nat} {ws : List Txt} (h : SplInv c l l.length f ws) : SplInv c l (l.length + 1) (l.length + 1) (ws ++ [(l.drop f).take (l.length - f)]) := by
  obtain ⟨h1, h2, h3⟩ := h.1 (Nat.le_refl _)
  refine ⟨fun hh => by omega, fun _ => ?_⟩
  have e : (l.drop f).take (l.length - f) = l.drop f := List.take_of_length_le (by simp)
  rw [e] at h3 ⊢
  rw [h2, cut_none c _ h3]
theorem SplInv.skip {c x : UInt8} {l : Txt} {k f : Nat} {ws : List Txt} (h : SplInv c l k f ws) (hk : l[k]? = some x) (hx : x ≠ c) : SplInv c l (k + 1) f ws := by
  have hlt := (List.getElem?_eq_some_iff.1 hk).1
  obtain ⟨h1, h2, h3⟩ := h.1 (by omega)
  refine ⟨fun _ => ⟨by omega, h2, ?_⟩, fun hh => by omega⟩
  have e : (l.drop f).take (k + 1 - f) = (l.drop f).take (k - f) ++ [x] := by
    rw [show k + 1 - f = (k - f) + 1 by omega]
    exact take_snoc (by rw [List.getElem?_drop, show f + (k - f) = k by omega]; exact hk)
  rw [e]
  intro hm
  rcases List.mem_append.1 hm with hm | hm
  · exact h3 hm
  · simp at hm; exact hx hm.symm
theorem SplInv.fle {c : UInt8} {l : Txt} {k f : Nat} {ws : List Txt} (h : SplInv c l k f ws) (hk : k ≤ l.length) : f ≤ k := (h.1 hk).1

set_option maxHeartbeats 3200000 in
theorem l01Split_any (c : UInt8) (s : ByteArray) (w : World) (hs : s.size ≤ 1048576) :
    Calls Tryz.prog 31 #[.string s, .int .u8 (c.toNat : Int)] w fun e w' => ∃ a cp, e = .returned (.slice a (cut c s.data.toList).length cp) ∧ Own w' w.heap.size w'.heap.size 9 1 a (cut c s.data.toList).length cp (strs (cut c s.data.toList)) ∧ Below w.heap.size w w' := by
  have hsd := Lib.hid (size_data s)
  have O0 := Lib.hid ((Own.lit0 w 9 1).mono (lo' := w.heap.size) (hi' := (w.alloc (.cells #[] 9)).heap.size) (by omega) (by simp))
  have B0 := (Below.refl w.heap.size w).alloc (Nat.le_refl _) (.cells #[] 9)
  have C := c.toNat_lt
  go_enter Tryz.func31, Tryz.ntmps31
  go_wp2
  go_loopw [5, 6, 7] (fun o f i wr => ∃ (k f' cp : Nat) (a : Option Addr) (ws : List Txt), o = .slice a ws.length cp ∧ f = .int .i64 f' ∧ i = .int .i64 k ∧ k ≤ s.size + 1 ∧ ws.length ≤ k ∧ Hid (SplInv c s.data.toList k f' ws) ∧ Hid (Own wr w.heap.size wr.heap.size 9 1 a ws.length cp (strs ws)) ∧ Below w.heap.size w wr) (fun _ _ i _ => s.size + 1 - (intOf i).toNat)
  case atStart => exact ⟨0, 0, 0, _, [], rfl, rfl, rfl, by omega, by simp, Lib.hid (SplInv.start _ _), O0, B0⟩
  case round =>
    clear O0 B0
    obtain ⟨k, f, cp, a, ws, rfl, rfl, rfl, hk, hwk, HI, HO, B⟩ := hrel
    have hzB := B.size
    by_cases hlt : k ≤ s.size
    · have hkI : (k : Int) ≤ (s.size : Int) := by omega
      have hfk : (f : Int) ≤ (k : Int) := by have := HI.out.fle (by have := hsd.out; omega); omega
      have hfs : (f : Int) ≤ (s.size : Int) := by omega
      obtain ⟨P, hP⟩ : ∃ P, (s.data.toList.drop f).take (k - f) = P := ⟨_, rfl⟩
      have hex : s.extract f k = str P := by rw [ext_str, hP]
      by_cases hend : k = s.size
      · subst hend
        have HI2 := Lib.hid (show SplInv c s.data.toList (s.size + 1) (s.size + 1) (ws ++ [P]) from by
          have h1 := hsd.out
          have h2 := HI.out
          rw [h1] at h2 hP ⊢
          rw [← hP]
          exact h2.cutEnd)
        clear HI hP
        go_wp2_with (at_builtin; refine wpList_app _ rfl (.tmp 26) (.tmp 31) _ rfl Tryz.underlying54 info_str rfl (by decide) rfl (HO.out.alloc _) rfl (Row.one _ _ _) (strs_one [P]) (by decide) (by simp only [maxLen]; omega) (by omega) (by simp; omega) ?_; intro A2 c2 w9 hown9 hb9 hg9)
        have hz9 := hb9.size
        have O9 := Lib.hid (show Own w9 w.heap.size w9.heap.size 9 1 A2 (ws ++ [P]).length c2 (strs (ws ++ [P])) by rw [strs_app, List.length_append]; exact hown9)
        have B9 := (B.alloc B.size (.cells #[.string (str P)] 9)).trans hb9
        clear hown9 hg9 HO
        go_roundw
        case rel => exact ⟨s.size + 1, s.size + 1, c2, A2, ws ++ [P], by simp, by go_num, by go_num, by omega, by simp; omega, HI2, O9, B9⟩
        case measure => simp [intOf] <;> omega
      · have hks : k < s.size := by omega
        have hkI2 : (k : Int) < (s.size : Int) := by omega
        have hne : ((k : Int) == (s.size : Int)) = false := by simp; omega
        have hc := Lib.hid (byte_at s k hks)
        obtain ⟨x, hg⟩ : ∃ x, s[k]'hks = x := ⟨_, rfl⟩
        rw [hg] at hc
        have hxl := x.toNat_lt
        clear hend
        by_cases hx : x = c
        · subst hx
          have HI2 := Lib.hid (show SplInv x s.data.toList (k + 1) (k + 1) (ws ++ [P]) from hP ▸ HI.out.cutAt hc.out)
          clear HI hP hc
          go_wp2_with (at_builtin; refine wpList_app _ rfl (.tmp 26) (.tmp 31) _ rfl Tryz.underlying54 info_str rfl (by decide) rfl (HO.out.alloc _) rfl (Row.one _ _ _) (strs_one [P]) (by decide) (by simp only [maxLen]; omega) (by omega) (by simp; omega) ?_; intro A2 c2 w9 hown9 hb9 hg9)
          have hz9 := hb9.size
          have O9 := Lib.hid (show Own w9 w.heap.size w9.heap.size 9 1 A2 (ws ++ [P]).length c2 (strs (ws ++ [P])) by rw [strs_app, List.length_append]; exact hown9)
          have B9 := (B.alloc B.size (.cells #[.string (str P)] 9)).trans hb9
          clear hown9 hg9 HO
          go_roundw
          case rel => exact ⟨k + 1, k + 1, c2, A2, ws ++ [P], by simp, by go_num, by go_num, by omega, by simp; omega, HI2, O9, B9⟩
          case measure => simp [intOf] <;> omega
        · have HI2 := Lib.hid (HI.out.skip hc.out hx)
          have hxc : ((x.toNat : Int) == (c.toNat : Int)) = false := by
            simp only [beq_eq_false_iff_ne]
            intro e
            exact hx (UInt8.toNat_inj.1 (by omega))
          clear HI hP hc hx hex
          go_wp2
          go_roundw
          case rel => exact ⟨k + 1, f, cp, a, ws, rfl, rfl, by go_num, by omega, by omega, HI2, HO, B⟩
          case measure => simp [intOf] <;> omega
    · obtain rfl : k = s.size + 1 := by omega
      have hf : ¬ (((s.size + 1 : Nat) : Int) ≤ (s.size : Int)) := by omega
      have he := HI.out.2 (by rw [← hsd.out]; omega)
      clear HI
      have HE := Lib.hid he
      clear he
      go_wp2
      go_ret
      exact ⟨a, cp, by rw [HE.out]; rfl, by rw [HE.out]; exact HO.out, B⟩
end Go.Proofs.YtaimckepaldocaaGreatDoor
