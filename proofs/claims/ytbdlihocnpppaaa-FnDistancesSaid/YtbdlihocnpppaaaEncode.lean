/- The convolutional code: EncodeBits, MessageOf, ErrorsOf, by both programs. -/
import Derived.Test.YtbdlihocnpppaaaLib
import Derived.Test.YtbdlihocnpppaaaConv
namespace Go.Proofs.Ytbdlihocnpppaaa
open Go.RowKit
set_option maxRecDepth 100000
set_option linter.unusedVariables false

def enc : Int → List Int → List Int
  | _, [] => []
  | s, b :: t => out1 s b :: out2 s b :: enc (nxt s b) t
theorem enc_len : ∀ (s : Int) (xs : List Int), (enc s xs).length = 2 * xs.length
  | _, [] => rfl
  | s, b :: t => by rw [enc]; simp [enc_len]; omega
def encL (xs : List Int) : List Int := enc 0 (xs ++ [0, 0])
theorem encL_len (xs : List Int) : (encL xs).length = 2 * (xs.length + 2) := by simp [encL, enc_len]
def Bits (xs : List Int) : Prop := ∀ x ∈ xs, 0 ≤ x ∧ x ≤ 1
theorem Bits.of {most : Int} {xs : List Int} (h : listOk most 0 1 xs = true) : Bits xs := by
  intro x hx
  obtain ⟨k, hk⟩ := List.mem_iff_getElem?.1 hx
  exact listOk_get h hk
theorem Bits.get {xs : List Int} {k : Nat} {x : Int} (h : Bits xs) (hx : xs[k]? = some x) : 0 ≤ x ∧ x ≤ 1 := h x (List.mem_of_getElem? hx)
theorem Bits.end_ {xs : List Int} (h : Bits xs) : Bits (xs ++ [0, 0]) := by
  intro x hx
  rcases List.mem_append.1 hx with h1 | h1
  · exact h x h1
  · simp at h1; omega

def EInv (ys : List Int) (k : Nat) (s : Int) (acc : List Int) : Prop := acc ++ enc s (ys.drop k) = enc 0 ys ∧ acc.length = 2 * k
theorem EInv.start (ys : List Int) : EInv ys 0 0 [] := ⟨rfl, rfl⟩
theorem EInv.step {ys acc : List Int} {k : Nat} {s b : Int} (h : EInv ys k s acc) (hb : ys[k]? = some b) : EInv ys (k + 1) (nxt s b) (acc ++ [out1 s b, out2 s b]) := by
  refine ⟨?_, by have := h.2; simp; omega⟩
  rw [← h.1, drop_at hb, enc, List.append_assoc]; rfl
theorem EInv.done {ys acc : List Int} {k n : Nat} {s : Int} (h : EInv ys k s acc) (hl : ys.length = n) (hk : ¬ k < n) : enc 0 ys = acc := by
  rw [← h.1, List.drop_of_length_le (by omega)]; simp [enc]

theorem encode_any (a : Option Addr) (n c : Nat) (xs : List Int) (w : World) (h : Row w 1 a n (ints xs)) (hn : n ≤ 2000) (hb : Bits xs) :
    Calls Try.prog 32 #[.slice a n c] w fun e w' => ∃ a' c', e = .returned (.slice a' (2 * (n + 2)) c') ∧ Own w' w.heap.size w'.heap.size 2 1 a' (2 * (n + 2)) c' (ints (encL xs)) ∧ Below w.heap.size w w' := by
  have hbb := hb.end_
  have hlen : (xs ++ [0, 0]).length = n + 2 := by simp [h.len]
  unfold encL
  generalize hys : xs ++ [0, 0] = ys at hbb hlen ⊢
  go_enter Try.func32, Try.ntmps32
  go_wp2_with (first | (go_at_call 42; refine (clone_any _ _ _ _ _ h (by omega)).mono ?_; rintro e w' ⟨a1, c1, rfl, hown1, hbel1⟩) | (at_builtin; refine wpList_app _ rfl (.tmp 11) (.tmp 12) _ rfl Try.underlying24 info_i64 rfl (by decide) rfl (hown1.alloc _) rfl (by exact Row.lit _ (ints [0, 0]) _ _ 2 (by simp) (by rfl)) (ints_one [0, 0]) (by decide) (by simp only [maxLen]; omega) (by omega) (by have := hbel1.size; simp; omega) ?_; intro A2 c2 w2 hown2 hb2 _))
  have hbel2 := (hbel1.alloc hbel1.size _).trans hb2
  rw [← ints_app, hys] at hown2
  have hrow2 := hown2.row
  clear hown2 hown1 hbel1 hb2
  go_loopw [3, 4, 15] (fun l p i wr => ∃ (k : Nat) (S : Int) (a' : Option Addr) (m cp : Nat) (acc : List Int), k ≤ n + 2 ∧ i = .int .i64 k ∧ p = .int .i64 S ∧ l = .slice a' m cp ∧ 0 ≤ S ∧ S ≤ 3 ∧ Own wr w2.heap.size wr.heap.size 2 1 a' m cp (ints acc) ∧ Hid (EInv ys k S acc) ∧ Below w2.heap.size w2 wr) (fun _ _ i _ => n + 2 - (intOf i).toNat)
  case atStart => exact ⟨0, 0, none, 0, 0, [], Nat.zero_le _, rfl, rfl, rfl, by omega, by omega, Own.nil_ _ _ _ _ _, EInv.start _, Below.refl _ _⟩
  case round =>
    obtain ⟨k, S, a', m, cp, acc, hk, rfl, rfl, rfl, hS0, hS, hown, hinv, hbel⟩ := hrel
    by_cases hlt : k < n + 2
    · obtain ⟨b, off, x, rfl, hc, hx⟩ := (hrow2.below hbel (Nat.le_refl _)).at_ hlt
      obtain ⟨hb0, hb1⟩ := hbb.get hx.out
      have hr := nxt_rng hS0 hS hb0 hb1
      have hm : m ≤ 2 * k := by have := hown.row.len; have := hinv.out.2; omega
      go_wp2_with (first | (go_at_call 43; refine (take_any _ _ _ hS0 hS hb0 hb1).mono ?_; rintro e w' ⟨rfl, rfl⟩) | (at_builtin; refine wpList_app _ rfl (.tmp 26) (.tmp 29) _ rfl Try.underlying24 info_i64 rfl (by decide) rfl (hown.alloc _) rfl (by exact Row.lit _ (ints [out1 S x, out2 S x]) _ _ 2 (by simp) (by rfl)) (ints_one [out1 S x, out2 S x]) (by decide) (by simp only [maxLen]; omega) (by omega) (by have := hbel.size; simp; omega) ?_; intro A3 c3 w3 hown3 hb3 _))
      go_roundw
      case rel => exact ⟨k + 1, nxt S x, _, _, _, acc ++ [out1 S x, out2 S x], by omega, by go_num, rfl, rfl, hr.1, hr.2, by rw [ints_app]; exact hown3, hinv.out.step hx.out, (hbel.alloc hbel.size _).trans hb3⟩
      case measure => simp [intOf]; omega
    · go_wp2
      go_ret
      have hl := hown.row.len
      have hl2 := hinv.out.2
      obtain rfl : m = 2 * (n + 2) := by omega
      refine ⟨_, _, rfl, ?_, hbel2.trans (hbel.mono (by have := hbel2.size; omega))⟩
      rw [hinv.out.done hlen hlt]
      exact hown.mono (by have := hbel2.size; omega) (Nat.le_refl _)

theorem l27Encode_any (a : Option Addr) (n c : Nat) (xs : List Int) (w : World) (h : Row w 1 a n (ints xs)) (hn : n ≤ 2000) (hb : Bits xs) :
    Calls Try.prog 35 #[.slice a n c] w fun e w' => ∃ a' c', e = .returned (.slice a' (2 * (n + 2)) c') ∧ Own w' w.heap.size w'.heap.size 2 1 a' (2 * (n + 2)) c' (ints (encL xs)) ∧ Below w.heap.size w w' := by
  have hlen : (xs ++ [0, 0]).length = n + 2 := by simp [h.len]
  have hxl := h.len
  unfold encL
  go_enter Try.func35, Try.ntmps35
  go_wp2
  go_loopw [3, 4, 5] (fun l p i wr => ∃ (k : Nat) (S : Int) (a' : Option Addr) (m cp : Nat) (acc : List Int), k ≤ n + 2 ∧ i = .int .i64 k ∧ p = .int .i64 S ∧ l = .slice a' m cp ∧ 0 ≤ S ∧ S ≤ 3 ∧ Own wr w.heap.size wr.heap.size 2 1 a' m cp (ints acc) ∧ Hid (EInv (xs ++ [0, 0]) k S acc) ∧ Below w.heap.size w wr) (fun _ _ i _ => n + 2 - (intOf i).toNat)
  case atStart => exact ⟨0, 0, _, 0, 0, [], Nat.zero_le _, rfl, rfl, rfl, by omega, by omega, (Own.lit0 _ _ _).mono (Nat.le_refl _) (by simp), EInv.start _, (Below.refl _ _).alloc (Nat.le_refl _) _⟩
  case round =>
    obtain ⟨k, S, a', m, cp, acc, hk, rfl, rfl, rfl, hS0, hS, hown, hinv, hbel⟩ := hrel
    have hm : m ≤ 2 * k := by have := hown.row.len; have := hinv.out.2; omega
    by_cases hlt : k < n
    · obtain ⟨b, off, x, rfl, hc, hx⟩ := (h.below hbel (Nat.le_refl _)).at_ hlt
      obtain ⟨hb0, hb1⟩ := hb.get hx.out
      have hr := nxt_rng hS0 hS hb0 hb1
      have hx2 : (xs ++ [0, 0])[k]? = some x := by rw [List.getElem?_append_left (by omega)]; exact hx.out
      replace hx2 := Lib.hid hx2
      go_wp2_with (first | (go_at_call 44; refine (l27Next_any _ _ _ hS0 hS hb0 hb1).mono ?_; rintro e w' ⟨rfl, rfl⟩) | (at_builtin; refine wpList_app _ rfl (.tmp 33) (.tmp 36) _ rfl Try.underlying24 info_i64 rfl (by decide) rfl (hown.alloc _) rfl (by exact Row.lit _ (ints [out1 S x, out2 S x]) _ _ 2 (by simp) (by rfl)) (ints_one [out1 S x, out2 S x]) (by decide) (by simp only [maxLen]; omega) (by omega) (by have := hbel.size; simp; omega) ?_; intro A3 c3 w3 hown3 hb3 _))
      go_roundw
      case rel => exact ⟨k + 1, nxt S x, _, _, _, acc ++ [out1 S x, out2 S x], by omega, by go_num, rfl, rfl, hr.1, hr.2, by rw [ints_app]; exact hown3, hinv.out.step hx2.out, (hbel.alloc hbel.size _).trans hb3⟩
      case measure => simp [intOf]; omega
    by_cases hlt2 : k < n + 2
    · have hr := nxt_rng hS0 hS (Int.le_refl 0) (show (0 : Int) ≤ 1 by omega)
      have hx2 : (xs ++ [0, 0])[k]? = some 0 := by
        rw [List.getElem?_append_right (by omega), hxl]
        rcases Nat.lt_or_ge k (n + 1) with h1 | h1
        · rw [show k - n = 0 from by omega]; rfl
        · rw [show k - n = 1 from by omega]; rfl
      replace hx2 := Lib.hid hx2
      go_wp2_with (first | (go_at_call 44; refine (l27Next_any _ _ _ hS0 hS (Int.le_refl 0) (by omega)).mono ?_; rintro e w' ⟨rfl, rfl⟩) | (at_builtin; refine wpList_app _ rfl (.tmp 33) (.tmp 36) _ rfl Try.underlying24 info_i64 rfl (by decide) rfl (hown.alloc _) rfl (by exact Row.lit _ (ints [out1 S 0, out2 S 0]) _ _ 2 (by simp) (by rfl)) (ints_one [out1 S 0, out2 S 0]) (by decide) (by simp only [maxLen]; omega) (by omega) (by have := hbel.size; simp; omega) ?_; intro A3 c3 w3 hown3 hb3 _))
      go_roundw
      case rel => exact ⟨k + 1, nxt S 0, _, _, _, acc ++ [out1 S 0, out2 S 0], by omega, by go_num, rfl, rfl, hr.1, hr.2, by rw [ints_app]; exact hown3, hinv.out.step hx2.out, (hbel.alloc hbel.size _).trans hb3⟩
      case measure => simp [intOf]; omega
    · go_wp2
      go_ret
      have hl := hown.row.len
      have hl2 := hinv.out.2
      obtain rfl : m = 2 * (n + 2) := by omega
      refine ⟨_, _, rfl, ?_, hbel⟩
      rw [hinv.out.done hlen hlt2]
      exact hown

def encodeBits (xs : List Int) : List Int × Int := if listOk 300 0 1 xs then (encL xs, 0) else ([], 1)
theorem encodeBits_no {xs : List Int} (h : listOk 300 0 1 xs = false) : encodeBits xs = ([], 1) := by simp [encodeBits, h]
theorem encodeBits_yes {xs : List Int} (h : listOk 300 0 1 xs = true) : encodeBits xs = (encL xs, 0) := by simp [encodeBits, h]
theorem encodeBits_len (xs : List Int) : (encodeBits xs).1.length ≤ 604 := by
  cases h : listOk 300 0 1 xs
  · simp [encodeBits_no h]
  · rw [encodeBits_yes h, encL_len]
    have := listOk_le h rfl
    omega

theorem encodeBits_impl (a : Option Addr) (n c : Nat) (xs : List Int) (w : World) (h : Row w 1 a n (ints xs)) (hn : n ≤ 1048576) :
    Calls Try.prog 14 #[.slice a n c] w fun e w' => ∃ a n cp, e = .returned (.tuple #[.slice a n cp, .int .i64 (encodeBits xs).2]) ∧ Own w' w.heap.size w'.heap.size 2 1 a n cp (ints (encodeBits xs).1) ∧ Below w.heap.size w w' := by
  cases hok : listOk 300 0 1 xs
  · rw [encodeBits_no hok]
    go_enter Try.func14, Try.ntmps14
    go_wp2_with (go_at_call 37; refine (isMessage_any _ _ _ _ _ h hn).mono ?_; rintro e w' ⟨rfl, rfl⟩)
    go_ret2
    exact ⟨_, _, _, rfl, Own.nil_ _ _ _ _ _, Below.refl _ _⟩
  · rw [encodeBits_yes hok]
    have hle := listOk_le hok h.len
    go_enter Try.func14, Try.ntmps14
    go_wp2_with (first | (go_at_call 37; refine (isMessage_any _ _ _ _ _ h hn).mono ?_; rintro e w' ⟨rfl, rfl⟩) | (go_at_call 32; refine (encode_any _ _ _ _ _ h (by omega) (Bits.of hok)).mono ?_; rintro e w' ⟨a1, c1, rfl, hown, hbel⟩))
    go_ret2
    exact ⟨_, _, _, rfl, hown, hbel⟩

/-! ### the message of a code -/
/-- The bits that were taken in: read off the second of each two bits; the last four bits come of the end. -/
def unm : Int → List Int → List Int
  | s, _ :: q :: t => if 3 ≤ t.length then (q + s) % 2 :: unm (nxt s ((q + s) % 2)) t else []
  | _, _ => []
theorem unm_len : ∀ (s : Int) (xs : List Int), (unm s xs).length ≤ xs.length / 2
  | _, [] => by simp [unm]
  | _, [_] => by simp [unm]
  | s, p :: q :: t => by
    rw [unm]
    split
    · have := unm_len (nxt s ((q + s) % 2)) t; simp only [List.length_cons]; omega
    · simp
theorem unm_bits : ∀ (s : Int) (xs : List Int), Bits (unm s xs)
  | _, [] => by simp [unm, Bits]
  | _, [_] => by simp [unm, Bits]
  | s, p :: q :: t => by
    rw [unm]
    split
    · intro x hx
      rcases List.mem_cons.1 hx with rfl | h
      · omega
      · exact unm_bits _ t x h
    · simp [Bits]
def messageOf (xs : List Int) : List Int × Int :=
  if !(listOk 604 0 1 xs) then ([], 1) else if xs.length % 2 = 1 ∨ xs.length < 4 then ([], 4) else if encL (unm 0 xs) = xs then (unm 0 xs, 0) else ([], 4)
theorem messageOf_no {xs : List Int} (h : listOk 604 0 1 xs = false) : messageOf xs = ([], 1) := by simp [messageOf, h]
theorem messageOf_odd {xs : List Int} (h : listOk 604 0 1 xs = true) (h2 : xs.length % 2 = 1 ∨ xs.length < 4) : messageOf xs = ([], 4) := by simp [messageOf, h, h2]
theorem messageOf_ne {xs : List Int} (h : listOk 604 0 1 xs = true) (h3 : encL (unm 0 xs) ≠ xs) : messageOf xs = ([], 4) := by simp [messageOf, h, h3]
theorem messageOf_yes {xs : List Int} (h : listOk 604 0 1 xs = true) (h2 : ¬ (xs.length % 2 = 1 ∨ xs.length < 4)) (h3 : encL (unm 0 xs) = xs) : messageOf xs = (unm 0 xs, 0) := by simp only [messageOf, h, h2, h3]; rfl
theorem messageOf_len (xs : List Int) : (messageOf xs).1.length ≤ 302 := by
  unfold messageOf
  split
  · simp
  · rename_i h
    simp at h
    have := listOk_le h rfl
    have := unm_len 0 xs
    split
    · simp
    · split
      · simp only; omega
      · simp

def UInv (xs : List Int) (k : Nat) (s : Int) (acc : List Int) : Prop := acc ++ unm s (xs.drop (2 * k)) = unm 0 xs ∧ acc.length = k
theorem UInv.start (xs : List Int) : UInv xs 0 0 [] := ⟨rfl, rfl⟩
theorem UInv.step {xs acc : List Int} {k : Nat} {s q : Int} (h : UInv xs k s acc) (hq : xs[2 * k + 1]? = some q) (hl : 2 * k + 4 < xs.length) : UInv xs (k + 1) (nxt s ((q + s) % 2)) (acc ++ [(q + s) % 2]) := by
  refine ⟨?_, by have := h.2; simp; omega⟩
  have hp : xs[2 * k]? = some (xs[2 * k]'(by omega)) := List.getElem?_eq_getElem (by omega)
  rw [← h.1, drop_at hp, drop_at hq, unm, if_pos (by simp; omega), List.append_assoc]
  rfl
theorem UInv.done {xs acc : List Int} {k n : Nat} {s : Int} (h : UInv xs k s acc) (hl : xs.length = n) (hk : ¬ 2 * k + 4 < n) : unm 0 xs = acc := by
  rw [← h.1]
  have : unm s (xs.drop (2 * k)) = [] := by
    have hlen : (xs.drop (2 * k)).length ≤ 4 := by simp; omega
    match hx : xs.drop (2 * k) with
    | [] => simp [unm]
    | [_] => simp [unm]
    | p :: q :: t =>
      rw [hx] at hlen
      simp at hlen
      rw [unm, if_neg (by omega)]
  rw [this, List.append_nil]
theorem UInv.size {xs acc : List Int} {k : Nat} {s : Int} (h : UInv xs k s acc) : acc.length = k := h.2

theorem emod2 (a : Int) : Int.tmod a 2 = a % 2 ∨ a < 0 := by
  rcases Int.lt_or_le a 0 with h | h
  · exact .inr h
  · exact .inl (Int.tmod_eq_emod_of_nonneg h)

def msgOk (xs : List Int) : Bool := !(decide (xs.length % 2 = 1) || decide (xs.length < 4)) && decide (encL (unm 0 xs) = xs)