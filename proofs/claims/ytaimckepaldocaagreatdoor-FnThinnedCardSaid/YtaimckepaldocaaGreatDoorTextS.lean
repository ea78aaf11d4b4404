/- The text of a list of soundings, as the specification writes it. -/
import Derived.Test.YtaimckepaldocaaGreatDoorText
namespace Go.Proofs.YtaimckepaldocaaGreatDoor
open Go.RowKit
set_option maxRecDepth 100000
set_option linter.unusedVariables false
open Go.Lib (decDigits itoa)
set_option linter.unusedSimpArgs false
set_option linter.unusedVariables false

theorem joinB_snoc (c : UInt8) (x : Txt) : ∀ ws : List Txt, ws ≠ [] → joinB c (ws ++ [x]) = joinB c ws ++ [c] ++ x
  | [], h => absurd rfl h
  | [a], _ => by rw [List.singleton_append, joinB_cons, joinB_one, joinB_one]; simp
  | a :: b :: ws, _ => by
    have := joinB_snoc c x (b :: ws) (by simp)
    rw [List.cons_append, List.cons_append, joinB_cons, ← List.cons_append, this, joinB_cons]
    simp

set_option maxHeartbeats 1600000 in
theorem l01Join_any (c : UInt8) (a0 : Option Addr) (n c0 : Nat) (ns : List Int) (w : World) (h : Row w 1 a0 n (ints ns)) (hn : n ≤ 1000) (hb : Hid (∀ m ∈ ns, -9223372036854775807 ≤ m ∧ m ≤ 9223372036854775807)) :
    Calls Tryz.prog 33 #[.slice a0 n c0, .string (str [c])] w fun e w' => e = .returned (.string (str (joinB c (ns.map itoa)))) ∧ Below w.heap.size w w' := by
  have hln := h.len
  have HN := Lib.hid (show (ns.map itoa).length = n by rw [List.length_map]; exact hln)
  have HJ := Lib.hid (show ∀ k, (joinB c ((ns.map itoa).take k)).length ≤ 22000 from fun k => by
    have h1 := joinB_len c 21 ((ns.map itoa).take k) (fun l hl => by
      obtain ⟨m, hm, rfl⟩ := List.mem_map.1 (List.mem_of_mem_take hl)
      exact Go.Lib.itoa_length_le m (by have := (hb.out m hm).1; omega) (hb.out m hm).2)
    have h2 : ((ns.map itoa).take k).length ≤ 1000 := by rw [List.length_take, HN.out]; omega
    have h3 : ((ns.map itoa).take k).length * 22 ≤ 1000 * 22 := Nat.mul_le_mul_right _ h2
    omega)
  have H := Lib.hid h
  clear h hln
  go_enter Tryz.func33, Tryz.ntmps33
  go_wp2
  go_loopw [5, 6] (fun o i wr => ∃ (k : Nat) (out : Txt), k ≤ n ∧ i = .int .i64 k ∧ o = .string (str out) ∧ Hid (out = joinB c ((ns.map itoa).take k)) ∧ Below w.heap.size w wr) (fun _ i _ => n - (intOf i).toNat)
  case atStart => exact ⟨0, [], Nat.zero_le _, rfl, rfl, Lib.hid (by simp [joinB, Go.Lib.join]), Below.refl _ _⟩
  case round =>
    obtain ⟨k, out, hk, rfl, rfl, HO, B⟩ := hrel
    by_cases hlt : k < n
    · have hkI : (k : Int) < (n : Int) := by omega
      obtain ⟨b, off, x, rfl, hc, hx⟩ := (H.out.below B (Nat.le_refl _)).at_ hlt
      have hxb := hb.out x (List.mem_of_getElem? hx.out)
      have HX := Lib.hid (show (ns.map itoa)[k]? = some (itoa x) by rw [List.getElem?_map, hx.out]; rfl)
      have hol : out.length ≤ 22000 := by rw [HO.out]; exact HJ.out k
      have hxl := Go.Lib.itoa_length_le x (by omega) hxb.2
      clear hx
      by_cases hk0 : k = 0
      · subst hk0
        rw [Nat.add_zero] at hc
        have ho0 : out = [] := by rw [HO.out]; simp [joinB, Go.Lib.join]
        subst ho0
        have hsz : ¬ 9223372036854775807 < (str []).size + (str (itoa x)).size := by rw [str_size, str_size]; simp; omega
        have e2 : str [] ++ str (itoa x) = str (itoa x) := by rw [str_app]; rfl
        have H2 := Lib.hid (show itoa x = joinB c ((ns.map itoa).take (0 + 1)) by rw [take_snoc HX.out, List.take_zero, List.nil_append, joinB_one])
        clear HO HX hol hxl
        go_wp2_with fail
        go_at_call 48
        refine (l01Number_any x _ hxb.1 hxb.2).mono ?_
        rintro e w2 ⟨rfl, hb2⟩
        replace B := B.trans (hb2.mono B.size)
        clear hc
        go_wp2
        go_roundw
        case rel => exact ⟨0 + 1, itoa x, by omega, by go_num, by rfl, H2, B⟩
        case measure => simp [intOf] <;> omega
      · have hk0I : (0 : Int) < (k : Int) := by omega
        have hsz : ¬ 9223372036854775807 < (str out).size + (str [c]).size := by rw [str_size, str_size]; simp; omega
        have e1 : str out ++ str [c] = str (out ++ [c]) := str_app _ _
        have hsz2 : ¬ 9223372036854775807 < (str (out ++ [c])).size + (str (itoa x)).size := by rw [str_size, str_size]; simp; omega
        have e2 : str (out ++ [c]) ++ str (itoa x) = str (out ++ [c] ++ itoa x) := str_app _ _
        have H2 := Lib.hid (show out ++ [c] ++ itoa x = joinB c ((ns.map itoa).take (k + 1)) by
          have h1 := HN.out
          rw [take_snoc HX.out, joinB_snoc c (itoa x) _ (fun e => by have h3 := congrArg List.length e; rw [List.length_take, h1] at h3; simp at h3; omega), ← HO.out])
        clear HO HX hol hxl
        go_wp2_with fail
        go_at_call 48
        refine (l01Number_any x _ hxb.1 hxb.2).mono ?_
        rintro e w2 ⟨rfl, hb2⟩
        replace B := B.trans (hb2.mono B.size)
        clear hc
        go_wp2
        go_roundw
        case rel => exact ⟨k + 1, out ++ [c] ++ itoa x, by omega, by go_num, by simp, H2, B⟩
        case measure => simp [intOf] <;> omega
    · obtain rfl : k = n := by omega
      have HE := Lib.hid (show out = joinB c (ns.map itoa) by rw [HO.out, List.take_of_length_le (by rw [HN.out]; omega)])
      clear HO
      go_wp2
      go_ret
      exact ⟨by rw [← HE.out]; rfl, B⟩
end Go.Proofs.YtaimckepaldocaaGreatDoor
