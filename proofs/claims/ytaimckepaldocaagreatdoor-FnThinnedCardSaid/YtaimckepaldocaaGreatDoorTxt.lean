/- Plain law: decimal numerals; texts cut at a byte and joined; the text of a list of soundings. -/
import Derived.Test.YtaimckepaldocaaGreatDoorSnd
import Derived.Lib.SplitLaws
import Derived.Lib.ItoaMem
import Derived.Lib.ParseIntBCases
import Derived.Lib.Join
import Derived.Laws.Strings
namespace Go.Proofs.YtaimckepaldocaaGreatDoor
open Go.RowKit
set_option maxRecDepth 100000
set_option linter.unusedVariables false
set_option linter.unusedSimpArgs false
set_option linter.unusedVariables false

abbrev Txt := List UInt8
def str (l : Txt) : ByteArray := ⟨l.toArray⟩
theorem str_data (s : ByteArray) : str s.data.toList = s := by cases s; simp [str]
theorem data_str (l : Txt) : (str l).data.toList = l := by simp [str]
theorem str_size (l : Txt) : (str l).size = l.length := by simp [str, ByteArray.size]
theorem str_inj {a b : Txt} (h : str a = str b) : a = b := by have := congrArg (fun s => s.data.toList) h; simpa [data_str] using this
theorem str_app (a b : Txt) : str a ++ str b = str (a ++ b) := by
  apply ByteArray.ext
  simp [str, ByteArray.data_append]
theorem toL (s : ByteArray) : s.toList = s.data.toList := ByteArray.toList_eq s
theorem str_dec (a b : Txt) : decide (str a = str b) = decide (a = b) := by
  by_cases h : a = b
  · subst h; simp
  · rw [decide_eq_false h, decide_eq_false (fun e => h (str_inj e))]

/-! ### numerals -/
open Go.Lib (decDigits itoa)
theorem dig_nat {k : Nat} (h : k < 10) : (UInt8.ofNat (48 + k)).toNat = 48 + k := by simp [UInt8.toNat_ofNat']; omega
theorem decDigits_small {u : Nat} (h : u < 10) : decDigits u = [UInt8.ofNat (48 + u)] := by rw [decDigits, dif_pos h]
theorem decDigits_big {u : Nat} (h : ¬ u < 10) : decDigits u = decDigits (u / 10) ++ [UInt8.ofNat (48 + u % 10)] := by rw [decDigits, dif_neg h]
theorem decDigits_ne (u : Nat) : decDigits u ≠ [] := by
  by_cases h : u < 10
  · rw [decDigits_small h]; simp
  · rw [decDigits_big h]; simp
theorem decDigits_bytes (u : Nat) : ∀ c ∈ decDigits u, 48 ≤ c.toNat ∧ c.toNat ≤ 57 := by
  induction u using Nat.strongRecOn with
  | _ u ih =>
    intro c hc
    by_cases h : u < 10
    · rw [decDigits_small h] at hc; simp only [List.mem_singleton] at hc; subst hc; rw [dig_nat h]; omega
    · rw [decDigits_big h] at hc
      rcases List.mem_append.1 hc with hc | hc
      · exact ih (u / 10) (by omega) c hc
      · simp only [List.mem_singleton] at hc; subst hc; rw [dig_nat (by omega)]; omega
theorem itoa_bytes (n : Int) : ∀ c ∈ itoa n, c = 45 ∨ (48 ≤ c.toNat ∧ c.toNat ≤ 57) := by
  intro c hc
  unfold itoa at hc
  split at hc
  · rcases List.mem_cons.1 hc with hc | hc
    · exact .inl hc
    · exact .inr (decDigits_bytes _ c hc)
  · exact .inr (decDigits_bytes _ c hc)
theorem itoa_ne (n : Int) : itoa n ≠ [] := by
  unfold itoa; split
  · simp
  · exact decDigits_ne _
/-- The value of a row of digits. -/
def valF (acc : Nat) (l : Txt) : Nat := l.foldl (fun a c => 10 * a + (c.toNat - 48)) acc
theorem valF_snoc (acc : Nat) (l : Txt) (c : UInt8) : valF acc (l ++ [c]) = 10 * valF acc l + (c.toNat - 48) := by simp [valF]
theorem val_dec (u : Nat) : valF 0 (decDigits u) = u := by
  induction u using Nat.strongRecOn with
  | _ u ih =>
    by_cases h : u < 10
    · rw [decDigits_small h]; simp only [valF, List.foldl_cons, List.foldl_nil]; rw [dig_nat h]; omega
    · rw [decDigits_big h, valF_snoc, ih (u / 10) (by omega), dig_nat (by omega)]; omega
theorem dec_inj {u v : Nat} (h : decDigits u = decDigits v) : u = v := by rw [← val_dec u, h, val_dec]
theorem itoa_inj {m n : Int} (h : itoa m = itoa n) : m = n := by
  have h45 : ∀ u : Nat, ∀ t : Txt, decDigits u ≠ 45 :: t := fun u t e => by
    have := decDigits_bytes u 45 (by rw [e]; simp)
    simp at this
  unfold itoa at h
  split at h <;> split at h
  · injection h with _ h; have := dec_inj h; omega
  · exact absurd h.symm (h45 _ _)
  · exact absurd h (h45 _ _)
  · have := dec_inj h; omega
theorem parseM_dec (M : Nat) (hM : M ≤ 18446744073709551615) (u : Nat) (hu : u ≤ M) : Go.Lib.parseUintM M 0 (decDigits u) = .ok u := by
  have key : ∀ (l : Txt) (acc v : Nat) (c : UInt8), Go.Lib.parseUintM M acc l = .ok v → 48 ≤ c.toNat → c.toNat ≤ 57 → v * 10 + (c.toNat - 48) ≤ M → Go.Lib.parseUintM M acc (l ++ [c]) = .ok (v * 10 + (c.toNat - 48)) := by
    intro l
    induction l with
    | nil =>
      intro acc v c h h1 h2 h3
      simp only [Go.Lib.parseUintM] at h
      injection h with h; subst h
      simp only [List.nil_append, Go.Lib.parseUintM]
      rw [if_pos ⟨h1, h2⟩, if_neg (by omega), if_neg (by omega)]
    | cons b r ih =>
      intro acc v c h h1 h2 h3
      simp only [List.cons_append, Go.Lib.parseUintM] at h ⊢
      split at h
      · rename_i hb
        rw [if_pos hb]
        split at h
        · cases h
        · rename_i ha
          rw [if_neg ha]
          split at h
          · cases h
          · rename_i hc
            rw [if_neg hc]
            exact ih _ _ _ h h1 h2 h3
      · cases h
  induction u using Nat.strongRecOn with
  | _ u ih =>
    by_cases h : u < 10
    · rw [decDigits_small h]
      simp only [Go.Lib.parseUintM]
      rw [dig_nat h, if_pos (by omega), if_neg (by omega), if_neg (by omega)]
      congr 1; omega
    · rw [decDigits_big h]
      rw [key _ _ _ _ (ih (u / 10) (by omega) (by omega)) (by rw [dig_nat (by omega)]; omega) (by rw [dig_nat (by omega)]; omega) (by rw [dig_nat (by omega)]; omega)]
      rw [dig_nat (by omega)]; congr 1; omega
theorem parseU_dec (u : Nat) (hu : u ≤ 18446744073709551615) : Go.Lib.parseUintB 64 (decDigits u) = .ok u := by
  unfold Go.Lib.parseUintB
  rw [if_neg (decDigits_ne u)]
  exact parseM_dec _ (by decide) u (by simpa using hu)
theorem parse_itoa (n : Int) (h0 : -9223372036854775808 ≤ n) (h1 : n ≤ 9223372036854775807) : Go.Lib.parseIntB 64 (itoa n) = .ok n := by
  by_cases hn : n < 0
  · have e : itoa n = 45 :: decDigits n.natAbs := by unfold itoa; rw [if_pos hn]
    rw [e]
    unfold Go.Lib.parseIntB
    dsimp only
    rw [if_pos (by decide), parseU_dec _ (by omega)]
    simp only [show ((45 : UInt8).toNat = 45) = True by simp, not_true_eq_false, false_and, if_false, true_and, if_true]
    rw [if_neg (by simp; omega)]
    congr 1; omega
  · have e : itoa n = decDigits n.toNat := by unfold itoa; rw [if_neg hn]
    rw [e]
    cases hd : decDigits n.toNat with
    | nil => exact absurd hd (decDigits_ne _)
    | cons c r =>
      have hb := decDigits_bytes n.toNat c (by rw [hd]; simp)
      unfold Go.Lib.parseIntB
      dsimp only
      rw [if_neg (by omega), ← hd, parseU_dec _ (by omega)]
      simp only [show (c.toNat = 45) = False by simp; omega, not_false_eq_true, true_and, false_and, if_false]
      rw [if_neg (by simp; omega)]
      congr 1; omega

/-! ### cutting and joining -/
def cut (c : UInt8) : Txt → List Txt
  | [] => [[]]
  | x :: r => if x = c then [] :: cut c r else match cut c r with
    | h :: t => (x :: h) :: t
    | [] => [[x]]
theorem cut_ne (c : UInt8) (s : Txt) : cut c s ≠ [] := by
  cases s with
  | nil => simp [cut]
  | cons x r =>
    unfold cut
    split
    · simp
    · split <;> simp
theorem cut_cons (c x : UInt8) (r : Txt) (hx : x ≠ c) : ∃ h t, cut c r = h :: t ∧ cut c (x :: r) = (x :: h) :: t := by
  cases hc : cut c r with
  | nil => exact absurd hc (cut_ne c r)
  | cons h t => exact ⟨h, t, rfl, by rw [cut, if_neg hx, hc]⟩
theorem cut_hit (c : UInt8) (r : Txt) : cut c (c :: r) = [] :: cut c r := by rw [cut, if_pos rfl]
theorem cut_app (c : UInt8) : ∀ (a s : Txt), c ∉ a → ∃ h t, cut c s = h :: t ∧ cut c (a ++ s) = (a ++ h) :: t
  | [], s, _ => by
    cases hc : cut c s with
    | nil => exact absurd hc (cut_ne c s)
    | cons h t => exact ⟨h, t, rfl, by simpa using hc⟩
  | x :: a, s, hn => by
    obtain ⟨h, t, h1, h2⟩ := cut_app c a s (fun hm => hn (List.mem_cons_of_mem _ hm))
    have hx : x ≠ c := fun e => hn (by rw [e]; simp)
    obtain ⟨h', t', h3, h4⟩ := cut_cons c x (a ++ s) hx
    rw [h2] at h3
    injection h3 with h3 h5
    subst h3; subst h5
    exact ⟨h, t, h1, by simpa using h4⟩
theorem cut_none (c : UInt8) (a : Txt) (h : c ∉ a) : cut c a = [a] := by
  obtain ⟨h', t, h1, h2⟩ := cut_app c a [] h
  simp only [cut] at h1
  injection h1 with h1 h3
  subst h1; subst h3
  simpa using h2
theorem cut_sep (c : UInt8) (a s : Txt) (h : c ∉ a) : cut c (a ++ c :: s) = a :: cut c s := by
  obtain ⟨h', t, h1, h2⟩ := cut_app c a (c :: s) h
  rw [cut_hit] at h1
  injection h1 with h1 h3
  subst h1; subst h3
  simpa using h2
/-- Texts joined with one byte between them. -/
def joinB (c : UInt8) (ws : List Txt) : Txt := Go.Lib.join ws [c]
theorem joinB_cons (c : UInt8) (a b : Txt) (ws : List Txt) : joinB c (a :: b :: ws) = a ++ c :: joinB c (b :: ws) := by
  simp [joinB, Go.Lib.join_cons, Go.Lib.joinTail]
theorem joinB_one (c : UInt8) (a : Txt) : joinB c [a] = a := Go.Lib.join_one _ _
theorem cut_joinB (c : UInt8) : ∀ (ws : List Txt), ws ≠ [] → (∀ a ∈ ws, c ∉ a) → cut c (joinB c ws) = ws
  | [], h, _ => absurd rfl h
  | [a], _, h => by rw [joinB_one]; exact cut_none c a (h a (by simp))
  | a :: b :: ws, _, h => by rw [joinB_cons, cut_sep c a _ (h a (by simp)), cut_joinB c (b :: ws) (by simp) (fun x hx => h x (by simp [hx]))]
theorem joinB_cut (c : UInt8) : ∀ s : Txt, joinB c (cut c s) = s
  | [] => by simp [cut, joinB_one]
  | x :: r => by
    by_cases hx : x = c
    · subst hx
      rw [cut_hit]
      cases hc : cut x r with
      | nil => exact absurd hc (cut_ne x r)
      | cons h t => rw [joinB_cons, ← hc, joinB_cut x r]; rfl
    · obtain ⟨h, t, h1, h2⟩ := cut_cons c x r hx
      rw [h2]
      have ih := joinB_cut c r
      rw [h1] at ih
      cases t with
      | nil => rw [joinB_one] at ih ⊢; rw [ih]
      | cons b t => rw [joinB_cons] at ih ⊢; rw [← ih]; rfl
theorem cut_len (c : UInt8) (s : Txt) : (cut c s).length = s.count c + 1 := by
  induction s with
  | nil => simp [cut]
  | cons x r ih =>
    by_cases hx : x = c
    · subst hx; rw [cut_hit]; simp [ih]
    · obtain ⟨h, t, h1, h2⟩ := cut_cons c x r hx
      rw [h2, List.count_cons_of_ne (by simpa using hx), ← ih, h1]; simp
/-- The kit's split at one byte. -/
theorem splitK_cut (c : UInt8) : ∀ (k : Nat) (s : Txt), s.count c = k → Go.Lib.splitK [c] 0 k s = cut c s
  | 0, s, h => by
    rw [Go.Lib.splitK, cut_none c s (List.count_eq_zero.1 h)]
  | k + 1, s, h => by
    have hm : c ∈ s := List.count_pos_iff.1 (by omega)
    obtain ⟨a, b, rfl, ha⟩ : ∃ a b, s = a ++ c :: b ∧ c ∉ a := by
      clear h
      induction s with
      | nil => simp at hm
      | cons x r ih =>
        by_cases hx : x = c
        · exact ⟨[], r, by rw [hx]; rfl, by simp⟩
        · obtain ⟨a, b, e, ha⟩ := ih (by rcases List.mem_cons.1 hm with h | h; exact absurd h.symm hx; exact h)
          exact ⟨x :: a, b, by rw [e]; rfl, fun h => by rcases List.mem_cons.1 h with h | h; exact hx h.symm; exact ha h⟩
    have hi : Go.Lib.index (a ++ c :: b) [c] = (a.length : Int) := by
      rw [Go.Lib.index_one]
      clear h hm
      induction a with
      | nil => simp [Go.Lib.indexByte]
      | cons x r ih =>
        have hx : x ≠ c := fun e => ha (by rw [e]; simp)
        have := ih (fun h => ha (List.mem_cons_of_mem _ h))
        simp only [List.cons_append, Go.Lib.indexByte, this]
        rw [if_neg (by simpa using hx), if_neg (by simp <;> omega)]
        simp
    rw [Go.Lib.splitK, hi, if_neg (by simp <;> omega), cut_sep c a b ha]
    congr 1
    · simp
    · have hd : (a ++ c :: b).drop (((a.length : Int)).toNat + [c].length) = b := by simp [List.drop_append]
      rw [hd]
      exact splitK_cut c k b (by
        rw [List.count_append, List.count_eq_zero.2 ha] at h
        simpa using h)

/-! ### soundings -/
def sndTxt (t : I4) : Txt := joinB 32 [itoa t.1, itoa t.2.1, itoa t.2.2.1, itoa t.2.2.2]
def sndsTxt (ss : List I4) : Txt := joinB 59 (ss.map sndTxt)
theorem itoa_no {c : UInt8} (h : c = 32 ∨ c = 59) (n : Int) : c ∉ itoa n := fun hm => by
  rcases h with rfl | rfl <;> rcases itoa_bytes n _ hm with h | h <;> simp at h
theorem cut_sndTxt (t : I4) : cut 32 (sndTxt t) = [itoa t.1, itoa t.2.1, itoa t.2.2.1, itoa t.2.2.2] :=
  cut_joinB 32 _ (by simp) (fun a ha => by
    simp only [List.mem_cons, List.mem_nil_iff, or_false] at ha
    rcases ha with rfl | rfl | rfl | rfl <;> exact itoa_no (.inl rfl) _)
theorem sndTxt_no (t : I4) : (59 : UInt8) ∉ sndTxt t := by
  simp only [sndTxt, joinB_cons, joinB_one, List.mem_append, List.mem_cons, not_or]
  exact ⟨itoa_no (.inr rfl) _, by decide, itoa_no (.inr rfl) _, by decide, itoa_no (.inr rfl) _, by decide, itoa_no (.inr rfl) _⟩
theorem sndTxt_ne (t : I4) : sndTxt t ≠ [] := by simp [sndTxt, joinB_cons]
theorem cut_sndsTxt {ss : List I4} (h : ss ≠ []) : cut 59 (sndsTxt ss) = ss.map sndTxt :=
  cut_joinB 59 _ (by simpa using h) (fun a ha => by obtain ⟨t, _, rfl⟩ := List.mem_map.1 ha; exact sndTxt_no t)
theorem sndTxt_inj {a b : I4} (h : sndTxt a = sndTxt b) : a = b := by
  have := cut_sndTxt a
  rw [h, cut_sndTxt] at this
  simp only [List.cons.injEq, and_true] at this
  obtain ⟨h1, h2, h3, h4⟩ := this
  obtain ⟨a1, a2, a3, a4⟩ := a
  obtain ⟨b1, b2, b3, b4⟩ := b
  have e1 : a1 = b1 := itoa_inj h1.symm
  have e2 : a2 = b2 := itoa_inj h2.symm
  have e3 : a3 = b3 := itoa_inj h3.symm
  have e4 : a4 = b4 := itoa_inj h4.symm
  rw [e1, e2, e3, e4]
theorem sndsTxt_nil : sndsTxt [] = [] := rfl
theorem sndsTxt_ne {ss : List I4} (h : ss ≠ []) : sndsTxt ss ≠ [] := by
  cases ss with
  | nil => exact absurd rfl h
  | cons a t =>
    cases t with
    | nil => simp only [sndsTxt, List.map_cons, List.map_nil, joinB_one]; exact sndTxt_ne a
    | cons b t => simp [sndsTxt, joinB_cons]
theorem map_inj4 {xs ys : List I4} (h : xs.map sndTxt = ys.map sndTxt) : xs = ys := by
  induction xs generalizing ys with
  | nil => cases ys with
    | nil => rfl
    | cons _ _ => simp at h
  | cons a t ih => cases ys with
    | nil => simp at h
    | cons b u => simp only [List.map_cons, List.cons.injEq] at h; rw [sndTxt_inj h.1, ih h.2]
theorem sndsTxt_inj {xs ys : List I4} (h : sndsTxt xs = sndsTxt ys) : xs = ys := by
  by_cases hx : xs = []
  · subst hx
    by_cases hy : ys = []
    · exact hy.symm
    · exact absurd h.symm (sndsTxt_ne hy)
  · by_cases hy : ys = []
    · subst hy; exact absurd h (sndsTxt_ne hx)
    · have := cut_sndsTxt hx
      rw [h, cut_sndsTxt hy] at this
      exact map_inj4 this.symm
end Go.Proofs.YtaimckepaldocaaGreatDoor
