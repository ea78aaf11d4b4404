/- Numbers read from a text's words, by both programs. -/
import Derived.Test.YtaimckepaldocaaGreatDoorWords
namespace Go.Proofs.YtaimckepaldocaaGreatDoor
open Go.RowKit
set_option maxRecDepth 100000
set_option linter.unusedVariables false
open Go.Lib (decDigits itoa)
set_option linter.unusedSimpArgs false
set_option linter.unusedVariables false

def inB (A B : Int) (t : I4) : Prop := (A ≤ t.1 ∧ t.1 ≤ B) ∧ (A ≤ t.2.1 ∧ t.2.1 ≤ B) ∧ (A ≤ t.2.2.1 ∧ t.2.2.1 ≤ B) ∧ (A ≤ t.2.2.2 ∧ t.2.2.2 ≤ B)
def four (t : I4) : List Int := [t.1, t.2.1, t.2.2.1, t.2.2.2]
theorem four_txt (t : I4) : cut 32 (sndTxt t) = (four t).map itoa := cut_sndTxt t
theorem sndTxt_four (t : I4) : sndTxt t = joinB 32 ((four t).map itoa) := rfl

/-- The first k words are read: the numbers ns. -/
def RdInv (A B : Int) (ws : List Txt) (k : Nat) (ns : List Int) : Prop := ns.map itoa = ws.take k ∧ ∀ n ∈ ns, A ≤ n ∧ n ≤ B
section
variable {A B : Int} {ws : List Txt} {k : Nat} {ns : List Int} {l : Txt} {n : Int}
theorem RdInv.start : RdInv A B ws 0 [] := ⟨by simp, by simp⟩
theorem RdInv.step (h : RdInv A B ws k ns) (hl : ws[k]? = some l) (hn : NumOf A B l n true) : RdInv A B ws (k + 1) (ns ++ [n]) := by
  obtain ⟨h1, h2⟩ := hn.1 rfl
  refine ⟨by rw [List.map_append, h.1, take_snoc hl, h1]; rfl, fun m hm => ?_⟩
  rcases List.mem_append.1 hm with hm | hm
  · exact h.2 m hm
  · simp at hm; subst hm; exact h2
theorem RdInv.len (h : RdInv A B ws k ns) (hk : k ≤ ws.length) : ns.length = k := by
  have := congrArg List.length h.1
  simp at this; omega
theorem RdInv.done (h : RdInv A B ws ws.length ns) : ns.map itoa = ws := by rw [h.1, List.take_of_length_le (Nat.le_refl _)]
/-- A word that is no numeral: the text is no sounding's. -/
theorem bad_word {s : Txt} (hl : (cut 32 s)[k]? = some l) (hn : NumOf A B l n false) (t : I4) (ht : inB A B t) : s ≠ sndTxt t := by
  intro e
  rw [e, four_txt] at hl
  rw [List.getElem?_map] at hl
  obtain ⟨m, hm, rfl⟩ := Option.map_eq_some_iff.1 hl
  have hmem := List.mem_of_getElem? hm
  have hb : A ≤ m ∧ m ≤ B := by
    simp only [four, List.mem_cons, List.mem_nil_iff, or_false] at hmem
    rcases hmem with rfl | rfl | rfl | rfl
    · exact ht.1
    · exact ht.2.1
    · exact ht.2.2.1
    · exact ht.2.2.2
  exact hn.2 rfl m hb.1 hb.2 rfl
theorem good_words {s : Txt} (h : RdInv A B (cut 32 s) (cut 32 s).length ns) (h4 : ns.length = 4) : ∃ t : I4, ns = four t ∧ s = sndTxt t ∧ inB A B t := by
  obtain ⟨x, y, z, u, rfl⟩ : ∃ x y z u, ns = [x, y, z, u] := by
    match ns, h4 with
    | [x, y, z, u], _ => exact ⟨x, y, z, u, rfl⟩
  refine ⟨(x, y, z, u), rfl, ?_, h.2 x (by simp), h.2 y (by simp), h.2 z (by simp), h.2 u (by simp)⟩
  rw [sndTxt_four, ← joinB_cut 32 s, ← h.done]
  rfl
theorem not_four {s : Txt} (h : RdInv A B (cut 32 s) (cut 32 s).length ns) (h4 : ns.length ≠ 4) (t : I4) : s ≠ sndTxt t := by
  intro e
  have := h.done
  rw [e, four_txt] at this
  have := congrArg List.length this
  simp [four] at this
  exact h4 this
end

/-- What reading a sounding's text gives. -/
def WordPost (A B : Int) (s : Txt) (w : World) (e : Ending) (w' : World) : Prop := ∃ (a : Option Addr) (q cp : Nat) (ok : Bool), e = .returned (.tuple #[.slice a q cp, .bool ok]) ∧ (ok = true → ∃ (t : I4) (b off : Nat), a = some ⟨b, off, none⟩ ∧ w.heap.size ≤ b ∧ q = 4 ∧ Row w' 1 a q (ints (four t)) ∧ s = sndTxt t ∧ inB A B t) ∧ (ok = false → ∀ t : I4, inB A B t → s ≠ sndTxt t) ∧ Below w.heap.size w w'

theorem cut_length_le (c : UInt8) (s : Txt) : (cut c s).length ≤ s.length + 1 := by rw [cut_len]; have := List.count_le_length (a := c) (l := s); omega
theorem cut_word_le {c : UInt8} {s l : Txt} (h : l ∈ cut c s) : l.length ≤ s.length := by
  induction s generalizing l with
  | nil => simp [cut] at h; subst h; simp
  | cons x r ih =>
    by_cases hx : x = c
    · subst hx
      rw [cut_hit] at h
      rcases List.mem_cons.1 h with h | h
      · subst h; simp
      · have := ih h; simp; omega
    · obtain ⟨a, t, h1, h2⟩ := cut_cons c x r hx
      rw [h2] at h
      rcases List.mem_cons.1 h with h | h
      · subst h; have := ih (l := a) (by rw [h1]; simp); simp; omega
      · have := ih (l := l) (by rw [h1]; simp [h]); simp; omega

set_option maxHeartbeats 3200000 in
theorem readNumbers_any (s : ByteArray) (w : World) (hs : s.size ≤ 1048576) (G : GV w) :
    Calls Tryz.prog 29 #[.string s, .string (str [32]), .int .i64 4] w (WordPost (-9223372036854775808) 9223372036854775807 s.data.toList w) := by
  have hsd := Lib.hid (size_data s)
  go_enter Tryz.func29, Tryz.ntmps29
  go_wp2_with fail
  go_at_call 28
  refine (split_any 32 s _ hs G).mono ?_
  rintro e w1 ⟨b, rfl, hb0, hR, hb⟩
  have hcl := cut_length_le 32 s.data.toList
  obtain ⟨N, hN⟩ : ∃ N, (cut 32 s.data.toList).length = N := ⟨_, rfl⟩
  have HN := Lib.hid hN
  rw [hN] at hR hcl ⊢
  have HR1 := Lib.hid hR
  have HG1 := Lib.hid (G.below hb)
  have B0 := Lib.hid hb
  have hN2 : N ≤ 1048577 := by have := hsd.out; omega
  clear hR hb G hb0 hcl hN
  have O0 := Lib.hid (Own.nil_ w1 w1.heap.size w1.heap.size 2 1)
  go_wp2
  go_loopw [9, 12, 13, 19] (fun o _ _ i wr => ∃ (k cp : Nat) (a : Option Addr) (ns : List Int), o = .slice a ns.length cp ∧ i = .int .i64 k ∧ k ≤ N ∧ ns.length ≤ k ∧ Hid (RdInv (-9223372036854775808) 9223372036854775807 (cut 32 s.data.toList) k ns) ∧ Hid (Own wr w1.heap.size wr.heap.size 2 1 a ns.length cp (ints ns)) ∧ Below w1.heap.size w1 wr) (fun _ _ _ i _ => N - (intOf i).toNat)
  case atStart => exact ⟨0, 0, none, [], rfl, rfl, by omega, by simp, Lib.hid RdInv.start, O0, Below.refl _ _⟩
  case round =>
    clear O0
    obtain ⟨k, cp, a, ns, rfl, rfl, hk, hnk, HI, HO, B⟩ := hrel
    have hzB := B.size
    by_cases hlt : k < N
    · have hkI : (k : Int) < (N : Int) := by omega
      obtain ⟨l, hl⟩ : ∃ l, (cut 32 s.data.toList)[k]? = some l := ⟨_, List.getElem?_eq_getElem (by rw [HN.out]; exact hlt)⟩
      have HL := Lib.hid hl
      have hc := (HR1.out.below B (Nat.le_refl _)).getS hl
      rw [Nat.zero_add] at hc
      have hll : (str l).size ≤ 1048576 := by rw [str_size]; have := cut_word_le (List.mem_of_getElem? hl); have := hsd.out; omega
      clear hl
      go_wp2_with fail
      go_at_call 46
      refine (readNumber_any _ _ hll (HG1.out.below B)).mono ?_
      rintro e w2 ⟨n, ok, rfl, hn, n0, n1, hb⟩
      rw [data_str] at hn
      replace B := B.trans (hb.mono B.size)
      cases ok with
      | false =>
        have hbad := Lib.hid (fun t ht => bad_word HL.out hn t ht)
        clear hn
        go_wp2
        go_returns
        exact ⟨none, 0, 0, false, rfl, fun h => (by cases h), fun _ => hbad.out, B0.out.trans (B.mono B0.out.size)⟩
      | true =>
        have HI2 := Lib.hid (HI.out.step HL.out hn)
        have hz2 := hb.size
        replace HO := Lib.hid (HO.out.below hb (.inr (Nat.le_refl _))).leave
        clear hn HI HL hc hb
        go_wp2_with (at_builtin; refine wpList_app _ rfl (.tmp 30) (.tmp 32) _ rfl Tryz.underlying27 info_i64 rfl (by decide) rfl (HO.out.alloc _) rfl (Row.one _ _ _) (ints_one [n]) (by decide) (by simp only [maxLen]; omega) (by omega) (by simp; omega) ?_; intro A2 c2 w9 hown9 hb9 hg9)
        have O9 := Lib.hid (show Own w9 w1.heap.size w9.heap.size 2 1 A2 (ns ++ [n]).length c2 (ints (ns ++ [n])) by rw [ints_app, List.length_append]; exact hown9)
        have B9 := (B.alloc B.size (.cells #[.int .i64 n] 2)).trans hb9
        clear hown9 hg9 HO hb9
        go_roundw
        case rel => exact ⟨k + 1, c2, A2, ns ++ [n], by simp, by go_num, by omega, by simp; omega, HI2, O9, B9⟩
        case measure => simp [intOf] <;> omega
    · obtain rfl : k = N := by omega
      have hI := HI.out
      rw [← HN.out] at hI
      by_cases h4 : ns.length = 4
      · have hgd := Lib.hid (good_words hI h4)
        have h4I : ((ns.length : Int) == 4) = true := by simp; omega
        clear HI hI
        go_wp2
        go_returns
        exact ⟨a, _, cp, true, rfl, fun _ => by obtain ⟨t, rfl, h2, h3⟩ := hgd.out; obtain ⟨g, e1, e2, -, -⟩ := HO.out.head (by omega); have := B0.out.size; exact ⟨t, g, 0, e1, by omega, h4, HO.out.row, h2, h3⟩, fun h => (by cases h), B0.out.trans (B.mono B0.out.size)⟩
      · have hnf := Lib.hid (not_four hI h4)
        have h4I : ((ns.length : Int) == 4) = false := by simp; omega
        clear HI hI
        go_wp2
        go_returns
        exact ⟨a, _, cp, false, rfl, fun h => (by cases h), fun _ t _ => hnf.out t, B0.out.trans (B.mono B0.out.size)⟩
end Go.Proofs.YtaimckepaldocaaGreatDoor
