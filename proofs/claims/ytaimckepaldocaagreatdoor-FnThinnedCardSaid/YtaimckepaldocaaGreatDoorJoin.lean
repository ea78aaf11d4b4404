/- Numbers and texts joined, by both programs. -/
import Derived.Test.YtaimckepaldocaaGreatDoorReadS
namespace Go.Proofs.YtaimckepaldocaaGreatDoor
open Go.RowKit
set_option maxRecDepth 100000
set_option linter.unusedVariables false
open Go.Lib (decDigits itoa)
set_option linter.unusedSimpArgs false
set_option linter.unusedVariables false

theorem joinB_len (c : UInt8) (m : Nat) : ∀ ws : List Txt, (∀ l ∈ ws, l.length ≤ m) → (joinB c ws).length ≤ ws.length * (m + 1)
  | [], _ => by simp [joinB, Go.Lib.join]
  | [a], h => by rw [joinB_one]; have := h a (by simp); simp; omega
  | a :: b :: ws, h => by
    rw [joinB_cons, List.length_append, List.length_cons]
    have h1 := h a (by simp)
    have h2 := joinB_len c m (b :: ws) (fun l hl => h l (by simp [hl]))
    simp only [List.length_cons] at h2 ⊢
    rw [show (ws.length + 1 + 1) * (m + 1) = (ws.length + 1) * (m + 1) + (m + 1) by rw [Nat.add_mul (ws.length + 1) 1, Nat.one_mul]]
    omega
theorem joinS_any (c : UInt8) (a : Option Addr) (n cp : Nat) (ws : List Txt) (w : World) (h : Row w 1 a n (strs ws)) (hcp : n ≤ cp) (hn : n ≤ 1048576) (hlen : (joinB c ws).length ≤ 140737488355328) :
    Calls Tryz.prog 27 #[.slice a n cp, .string (str [c])] w fun e w' => e = .returned (.string (str (joinB c ws))) ∧ Below w.heap.size w w' := by
  have hl := h.lenS
  rcases Nat.eq_zero_or_pos n with h0 | h0
  · subst h0
    have : ws = [] := List.eq_nil_of_length_eq_zero hl
    subst this
    refine (strings_Join_none a cp (str [c]) w).mono ?_
    rintro e w' ⟨rfl, rfl⟩
    exact ⟨rfl, Below.refl _ _⟩
  · obtain ⟨b, off, rfl, hc⟩ := h.2 h0
    have e1 : (ws.map str).map (·.data.toList) = ws := by
      rw [List.map_map]
      have : ((fun x : ByteArray => x.data.toList) ∘ str) = id := funext fun x => data_str x
      rw [this, List.map_id]
    have hb : b < w.heap.size := by
      have h1 : ws[0]? = some ws[0] := List.getElem?_eq_getElem (by omega)
      have := World.block_lt_of_cell? w _ (h.getS h1)
      exact this
    have hj := strings_Join b off cp (ws.map str) (str [c]) w (fun j x hx => by
      rw [List.getElem?_map] at hx
      obtain ⟨l, h1, rfl⟩ := Option.map_eq_some_iff.1 hx
      exact h.getS h1) hb (by simp; omega) (by simp; omega) (by rw [e1, data_str]; exact hlen)
    rw [e1, data_str, List.length_map, hl] at hj
    exact hj

theorem lsetS {z : Value} {ws : List Txt} {k n : Nat} {x : Txt} (hl : ws.length = n) (hx : ws[k]? = some x) :
    (strs (ws.take k) ++ List.replicate (n - k) z).set k (.string (str x)) = strs (ws.take (k + 1)) ++ List.replicate (n - (k + 1)) z := by
  have hk : k < n := by have := (List.getElem?_eq_some_iff.1 hx).1; omega
  have hlen : (strs (ws.take k)).length = k := by rw [strs_length, List.length_take]; omega
  rw [take_snoc hx, strs_app, List.append_assoc, List.set_append_right _ _ (by omega), hlen, Nat.sub_self]
  rw [show n - k = (n - (k + 1)) + 1 from by omega, List.replicate_succ]
  rfl

set_option maxHeartbeats 1600000 in
theorem join_any (c : UInt8) (a0 : Option Addr) (n c0 : Nat) (ns : List Int) (w : World) (h : Row w 1 a0 n (ints ns)) (hn : n ≤ 1000) (hb : Hid (∀ m ∈ ns, -9223372036854775808 ≤ m ∧ m ≤ 9223372036854775807)) (G : GV w) :
    Calls Tryz.prog 26 #[.slice a0 n c0, .string (str [c])] w fun e w' => e = .returned (.string (str (joinB c (ns.map itoa)))) ∧ Below w.heap.size w w' := by
  have hmk : ∀ w, (Instr.makeSlice 54 (.int .i64 (n : Int)) (.int .i64 (n : Int))).run Tryz.prog w = .ok (.slice (some ⟨w.heap.size, 0, none⟩) n n) (w.alloc (.cells (madeCells #[.string ByteArray.empty] n) 9)) := run_make_row' (P := Tryz.prog) 54 9 (.string ByteArray.empty) 16 Tryz.underlying54 info_str rfl .i64 .i64 n (by omega) (by omega)
  have hln := h.len
  have HN := Lib.hid (show (ns.map itoa).length = n by rw [List.length_map]; exact hln)
  have H := Lib.hid h
  have HG := Lib.hid G
  clear h G
  go_enter Tryz.func26, Tryz.ntmps26
  go_wp2
  go_loopw [6, 7, 13] (fun _ _ i wr => ∃ k : Nat, k ≤ n ∧ i = .int .i64 k ∧ Own wr w.heap.size (w.heap.size + 1) 9 1 (some ⟨w.heap.size, 0, none⟩) n n (strs ((ns.map itoa).take k) ++ List.replicate (n - k) (.string ByteArray.empty)) ∧ Below w.heap.size w wr ∧ w.heap.size < wr.heap.size) (fun _ _ i _ => n - (intOf i).toNat)
  case atStart => exact ⟨0, Nat.zero_le _, rfl, by simpa [strs] using Own.made w (.string ByteArray.empty) (n := n) (E := 9) (by simp only [maxLen]; omega), (Below.refl _ _).alloc (Nat.le_refl _) _, by simp⟩
  case round =>
    obtain ⟨k, hk, rfl, hown, hbel, hsz⟩ := hrel
    by_cases hlt : k < n
    · have hkI : (k : Int) < (n : Int) := by omega
      obtain ⟨b, off, x, rfl, hc, hx⟩ := (H.out.below hbel (Nat.le_refl _)).at_ hlt
      have hxb := hb.out x (List.mem_of_getElem? hx.out)
      have HX := Lib.hid (show (ns.map itoa)[k]? = some (itoa x) by rw [List.getElem?_map, hx.out]; rfl)
      have HO := Lib.hid hown
      clear hown hx
      go_wp2_with fail
      go_at_call 41
      refine (decimal_any x _ hxb.1 hxb.2 (HG.out.below hbel)).mono ?_
      rintro e w2 ⟨rfl, hb2⟩
      have hz2 := hb2.size
      have hown := HO.out.below hb2 (.inr (Nat.le_refl _))
      replace hbel := hbel.trans (hb2.mono hbel.size)
      have hfz := hown.frozenAt k
      have hst := hown.stored k (.string (str (itoa x)))
      have hcell : ∃ v, w2.cell? ⟨w.heap.size, k, none⟩ = some v := by
        refine ⟨_, (hown.cellAt k (by omega)).trans (List.getElem?_eq_getElem ?_)⟩
        have := hown.len; omega
      obtain ⟨v, hcv⟩ := hcell
      rw [lsetS HN.out HX.out] at hst
      have HST := Lib.hid hst
      clear hst hown HO HX hc hb2
      go_wp2
      go_roundw
      case rel => exact ⟨k + 1, by omega, by go_num, HST.out.1, hbel.setCell (Nat.le_refl _) _, by simp [World.setCell]; omega⟩
      case measure => simp [intOf] <;> omega
    · obtain rfl : k = n := by omega
      have hR := hown.row
      rw [List.take_of_length_le (by rw [HN.out]; omega), Nat.sub_self, List.replicate_zero, List.append_nil] at hR
      have HR := Lib.hid hR
      have hjl := Lib.hid (joinB_len c 21 (ns.map itoa) (fun l hl => by
        obtain ⟨m, hm, rfl⟩ := List.mem_map.1 hl
        exact Go.Lib.itoa_length_le m (hb.out m hm).1 (hb.out m hm).2))
      clear hR hown
      go_wp2_with fail
      go_at_call 27
      refine (joinS_any c _ _ _ (ns.map itoa) _ HR.out (Nat.le_refl _) (by omega) (by have := hjl.out; rw [HN.out] at this; omega)).mono ?_
      rintro e w2 ⟨rfl, hb2⟩
      go_wp2
      go_ret
      exact ⟨rfl, hbel.trans (hb2.mono hbel.size)⟩
end Go.Proofs.YtaimckepaldocaaGreatDoor
