/- Numbers read from words, by the specification. -/
import Derived.Test.YtaimckepaldocaaGreatDoorRead
namespace Go.Proofs.YtaimckepaldocaaGreatDoor
open Go.RowKit
set_option maxRecDepth 100000
set_option linter.unusedVariables false
open Go.Lib (decDigits itoa)
set_option linter.unusedSimpArgs false
set_option linter.unusedVariables false

def NumsPost (A B : Int) (ws : List Txt) (w : World) (e : Ending) (w' : World) : Prop := ∃ (a : Option Addr) (q cp : Nat) (ok : Bool) (ns : List Int), e = .returned (.tuple #[.slice a q cp, .bool ok]) ∧ (ok = true → (0 < q → ∃ b, a = some ⟨b, 0, none⟩ ∧ w.heap.size ≤ b) ∧ Row w' 1 a q (ints ns) ∧ q = ns.length ∧ RdInv A B ws ws.length ns) ∧ (ok = false → ∃ (k : Nat) (l : Txt) (n : Int), ws[k]? = some l ∧ NumOf A B l n false) ∧ Below w.heap.size w w'

set_option maxHeartbeats 3200000 in
theorem l01Numbers_any (a0 : Option Addr) (N c0 : Nat) (ws : List Txt) (w : World) (h : Row w 1 a0 N (strs ws)) (hN : N ≤ 1048577) (hw : Hid (∀ l ∈ ws, l.length ≤ 1048576)) :
    Calls Tryz.prog 32 #[.slice a0 N c0] w (NumsPost (-999999999999) 999999999999 ws w) := by
  have HN := Lib.hid h.lenS
  have O0 := Lib.hid ((Own.lit0 w 2 1).mono (lo' := w.heap.size) (hi' := (w.alloc (.cells #[] 2)).heap.size) (by omega) (by simp))
  have B0 := (Below.refl w.heap.size w).alloc (Nat.le_refl _) (.cells #[] 2)
  have H := Lib.hid h
  clear h
  go_enter Tryz.func32, Tryz.ntmps32
  go_wp2
  go_loopw [4, 5, 6, 7] (fun o i _ _ wr => ∃ (k cp : Nat) (a : Option Addr) (ns : List Int), o = .slice a ns.length cp ∧ i = .int .i64 k ∧ k ≤ N ∧ ns.length ≤ k ∧ Hid (RdInv (-999999999999) 999999999999 ws k ns) ∧ Hid (Own wr w.heap.size wr.heap.size 2 1 a ns.length cp (ints ns)) ∧ Below w.heap.size w wr) (fun _ i _ _ _ => N - (intOf i).toNat)
  case atStart => exact ⟨0, 0, _, [], rfl, rfl, by omega, by simp, Lib.hid RdInv.start, O0, B0⟩
  case round =>
    clear O0 B0
    obtain ⟨k, cp, a, ns, rfl, rfl, hk, hnk, HI, HO, B⟩ := hrel
    have hzB := B.size
    by_cases hlt : k < N
    · have hkI : (k : Int) < (N : Int) := by omega
      obtain ⟨b, off, l, rfl, hc, hl⟩ := (H.out.below B (Nat.le_refl _)).atS hlt
      have hll : (str l).size ≤ 1048576 := by rw [str_size]; exact hw.out l (List.mem_of_getElem? hl.out)
      go_wp2_with fail
      go_at_call 47
      refine (l01Signed_any _ _ hll).mono ?_
      intro e w2 hd
      obtain ⟨n, ok, rfl, hn, n0, n1, hb⟩ := hd
      rw [data_str] at hn
      replace B := B.trans (hb.mono B.size)
      cases ok with
      | false =>
        have hbad := Lib.hid hn
        clear hn
        go_wp2
        go_returns
        exact ⟨none, 0, 0, false, [], rfl, fun h => (by cases h), fun _ => ⟨k, l, n, hl.out, hbad.out⟩, B⟩
      | true =>
        have HI2 := Lib.hid (HI.out.step hl.out hn)
        have hz2 := hb.size
        replace HO := Lib.hid (HO.out.below hb (.inr (Nat.le_refl _))).leave
        clear hn HI hl hc hb
        go_wp2_with (at_builtin; refine wpList_app _ rfl (.tmp 25) (.tmp 27) _ rfl Tryz.underlying27 info_i64 rfl (by decide) rfl (HO.out.alloc _) rfl (Row.one _ _ _) (ints_one [n]) (by decide) (by simp only [maxLen]; omega) (by omega) (by simp; omega) ?_; intro A2 c2 w9 hown9 hb9 hg9)
        have O9 := Lib.hid (show Own w9 w.heap.size w9.heap.size 2 1 A2 (ns ++ [n]).length c2 (ints (ns ++ [n])) by rw [ints_app, List.length_append]; exact hown9)
        have B9 := (B.alloc B.size (.cells #[.int .i64 n] 2)).trans hb9
        clear hown9 hg9 HO hb9
        go_roundw
        case rel => exact ⟨k + 1, c2, A2, ns ++ [n], by simp, by go_num, by omega, by simp; omega, HI2, O9, B9⟩
        case measure => simp [intOf] <;> omega
    · obtain rfl : k = N := by omega
      have hI := Lib.hid (show RdInv (-999999999999) 999999999999 ws ws.length ns from HN.out ▸ HI.out)
      clear HI
      go_wp2
      go_returns
      exact ⟨a, _, cp, true, ns, rfl, fun _ => ⟨fun h0 => by obtain ⟨g, e1, e2, -, -⟩ := HO.out.head h0; exact ⟨g, e1, e2⟩, HO.out.row, rfl, hI.out⟩, fun h => (by cases h), B⟩
end Go.Proofs.YtaimckepaldocaaGreatDoor
