/- Messages and codes that are drawn, whatever the code. -/
import Derived.Test.YtbdlihocnpppaaaDrawBits
import Derived.Test.YtbdlihocnpppaaaEncode
import Derived.Test.YtbdlihocnpppaaaPEnc
import Derived.Test.YtbdlihocnpppaaaDice
import Derived.Test.YtbdlihocnpppaaaTwo
namespace Go.Proofs.Ytbdlihocnpppaaa
open Go.RowKit
set_option maxRecDepth 100000
set_option linter.unusedVariables false

set_option maxHeartbeats 3200000 in
theorem l27DrawMessage_any (p : Nat) (w : World) (h : SrcOk w p) :
    Calls Try.prog 36 #[.pointer (some ⟨p, 0, none⟩)] w (ListDraw p w) := by
  have hpw := h.lt
  have HS := Lib.hid (h.alloc (.cells #[] 2))
  have G := grown_alloc (World.grownBy.refl w (some p)) (.cells #[] 2)
  have O := (Own.lit0 w 2 1).mono (lo' := w.heap.size) (hi' := (w.alloc (.cells #[] 2)).heap.size) (Nat.le_refl _) (by simp)
  go_enter Try.func36, Try.ntmps36
  go_wp2_with fail
  go_at_call 22
  refine (l01Next_any _ _ _ HS.out (by omega)).mono ?_
  rintro e w1 ⟨r, rfl, ⟨hr0, hr1, hr2⟩, hs, hg⟩
  have hr9 : r ≤ 100 := by have := hr1 (by omega); omega
  obtain ⟨R, rfl⟩ := Int.eq_ofNat_of_zero_le hr0
  replace O := (own_far O hpw hg).leave
  replace G := G.trans hg
  replace HS := Lib.hid hs
  clear hr1 hr2 hs hg
  go_wp2
  go_loopw [3, 4] (fun o i wr => ∃ (k q cp : Nat) (a' : Option Addr) (ys : List Int), i = .int .i64 k ∧ o = .slice a' q cp ∧ q + k ≤ 100 ∧ Own wr w.heap.size wr.heap.size 2 1 a' q cp (ints ys) ∧ Hid (SrcOk wr p) ∧ w.grownBy wr (some p)) (fun _ i _ => (intOf i).toNat)
  case atStart => exact ⟨R, 0, 0, _, [], rfl, rfl, by omega, O, HS, G⟩
  case round =>
    clear O HS G
    obtain ⟨k, q, cp, a', ys, rfl, rfl, hqk, hown, hs, hgr⟩ := hrel
    have hsp := hs.out.lt
    have hsz := hgr.size
    by_cases hk : 0 < k
    · have hkI : (0 : Int) < (k : Int) := by omega
      obtain ⟨k', rfl⟩ : ∃ k', k = k' + 1 := ⟨k - 1, by omega⟩
      have hsub : ((k' + 1 : Nat) : Int) - 1 = (k' : Int) := by omega
      go_wp2_with fail
      go_at_call 22
      refine (l01Next_any _ _ _ hs.out (by omega)).mono ?_
      rintro e w4 ⟨r, rfl, -, hs4, hg⟩
      have O4 := (own_far hown hpw hg).leave
      have G4 := hgr.trans hg
      have HS4 := Lib.hid (hs4.alloc (.cells #[.int .i64 r] 2))
      have hsz4 := G4.size
      clear hs4 hg hown hgr hs
      go_wp2_with (at_builtin; refine wpList_app _ rfl (.tmp 12) (.tmp 15) _ rfl Try.underlying24 info_i64 rfl (by decide) rfl (O4.alloc _) rfl (Row.one _ _ _) (ints_one [r]) (by decide) (by simp only [maxLen]; omega) (by omega) (by simp; omega) ?_; intro A2 c2 w5 hown5 hb5 _)
      go_roundw
      case rel => exact ⟨k', q + 1, c2, A2, ys ++ [r], by go_num, rfl, by omega, by rw [ints_app]; exact hown5, HS4.out.below hb5 hpw, grown_below (grown_alloc G4 _) hb5⟩
      case measure => simp [intOf] <;> omega
    · obtain rfl : k = 0 := by omega
      clear hk
      go_wp2_with fail
      go_at_call 22
      refine (l01Next_any _ _ _ hs.out (by omega)).mono ?_
      rintro e w4 ⟨t, rfl, -, hs4, hg⟩
      have O4 := (own_far hown hpw hg).leave
      have G4 := hgr.trans hg
      have HS4 := Lib.hid hs4
      have hsz4 := G4.size
      clear hs4 hg hown hgr hs
      by_cases t0 : t = 0
      · subst t0
        go_wp2_with fail
        go_at_call 27
        refine (l01Pick_any _ _ _ _ [-1, 2] _ (HS4.out.alloc _) (by exact Row.lit _ (ints [-1, 2]) _ _ _ (by simp) (by rfl)) (by omega) (by omega) (fun b off e => by injection e with e; injection e with e _ _; have := HS4.out.lt; omega)).mono ?_
        rintro e w5 ⟨r, rfl, -, hs5, hg⟩
        have O5 := (own_far (O4.alloc (.cells #[.int .i64 (-1), .int .i64 2] 2)) hpw hg).leave
        have G5 := (grown_alloc G4 (.cells #[.int .i64 (-1), .int .i64 2] 2)).trans hg
        have HS5 := Lib.hid (hs5.alloc (.cells #[.int .i64 r] 2))
        have hsz5 := G5.size
        clear hs5 hg O4 G4 HS4
        go_wp2_with (at_builtin; refine wpList_app _ rfl (.tmp 21) (.tmp 25) _ rfl Try.underlying24 info_i64 rfl (by decide) rfl (O5.alloc _) rfl (Row.one _ _ _) (ints_one [r]) (by decide) (by simp only [maxLen]; omega) (by omega) (by simp; omega) ?_; intro A2 c2 w6 hown6 hb6 _)
        go_ret
        exact ⟨_, _, _, ys ++ [r], rfl, by rw [ints_app]; exact hown6, by omega, HS5.out.below hb6 hpw, grown_below (grown_alloc G5 _) hb6⟩
      · have f0 : (t == 0) = false := by simpa using t0
        clear t0
        by_cases t1 : t = 1
        · subst t1
          go_wp2
          go_loopw [3] (fun o wr => ∃ (q cp : Nat) (a' : Option Addr) (ys : List Int), o = .slice a' q cp ∧ q ≤ 301 ∧ Own wr w.heap.size wr.heap.size 2 1 a' q cp (ints ys) ∧ Hid (SrcOk wr p) ∧ w.grownBy wr (some p)) (fun o _ => 302 - slen o)
          case atStart => exact ⟨q, cp, a', ys, rfl, by omega, O4, HS4, G4⟩
          case round =>
            clear O4 HS4 G4
            obtain ⟨q, cp, a', ys, rfl, hq, hown, hs, hgr⟩ := hrel
            have hsz := hgr.size
            go_wp2_with fail
            go_at_call 22
            refine (l01Next_any _ _ _ hs.out (by omega)).mono ?_
            rintro e w5 ⟨r, rfl, ⟨hr0, hr1, -⟩, hs5, hg⟩
            have hr9 := hr1 (by omega)
            have O5 := (own_far hown hpw hg).leave
            have G5 := hgr.trans hg
            have HS5 := Lib.hid hs5
            have hsz5 := G5.size
            clear hr1 hs5 hg hown hgr hs
            by_cases hqr : (q : Int) < 300 + r
            · go_wp2_with fail
              go_at_call 22
              refine (l01Next_any _ _ _ HS5.out (by omega)).mono ?_
              rintro e w6 ⟨r2, rfl, -, hs6, hg⟩
              have O6 := (own_far O5 hpw hg).leave
              have G6 := G5.trans hg
              have HS6 := Lib.hid (hs6.alloc (.cells #[.int .i64 r2] 2))
              have hsz6 := G6.size
              clear hs6 hg O5 G5 HS5
              go_wp2_with (at_builtin; refine wpList_app _ rfl (.tmp 35) (.tmp 38) _ rfl Try.underlying24 info_i64 rfl (by decide) rfl (O6.alloc _) rfl (Row.one _ _ _) (ints_one [r2]) (by decide) (by simp only [maxLen]; omega) (by omega) (by simp; omega) ?_; intro A2 c2 w7 hown7 hb7 _)
              go_roundw
              case rel => exact ⟨q + 1, c2, A2, ys ++ [r2], rfl, by omega, by rw [ints_app]; exact hown7, HS6.out.below hb7 hpw, grown_below (grown_alloc G6 _) hb7⟩
              case measure => simp [slen]; omega
            · go_wp2
              go_ret
              exact ⟨_, _, _, ys, rfl, O5, by omega, HS5.out, G5⟩
        · have f1 : (t == 1) = false := by simpa using t1
          clear t1
          go_wp2
          go_ret
          exact ⟨_, _, _, ys, rfl, O4, by omega, HS4.out, G4⟩


theorem grown_of_below' {w w' : World} {row : Option Nat} (h : Below w.heap.size w w') : w.grownBy w' row := ⟨h.os, h.tape, h.output, h.size, fun k hk _ => h.block k hk⟩
theorem enc_bits'' : ∀ (xs : List Int) (s : Int), Bits (enc s xs)
  | [], _ => by intro x hx; simp [enc] at hx
  | b :: t, s => by
    intro x hx
    have h := out_rng s b
    rw [enc] at hx
    rcases List.mem_cons.1 hx with rfl | hx
    · exact h.1
    · rcases List.mem_cons.1 hx with rfl | hx
      · exact h.2
      · exact enc_bits'' t _ x hx

theorem drawEncodeBits_any (a : Option Addr) (n c : Nat) (bs : List Nat) (w : World) (h : Code8 w a n bs) :
    Calls Try.prog 11 #[.slice a n c] w (CodeDraw w) := by
  go_enter Try.func11, Try.ntmps11
  go_wp2_with fail
  go_at_call 19
  refine (l01From_any _ _ _ _ _ h).mono ?_
  rintro e w1 ⟨p, rfl, hp, hs, B⟩
  have hp1 : w.heap.size ≤ p := by omega
  clear hp
  go_wp2_with fail
  go_at_call 36
  refine (l27DrawMessage_any _ _ hs).mono ?_
  intro e w2 hd
  obtain ⟨a', q, c', ys, rfl, ho, hq, -, hg⟩ := hd
  replace B := below_next' B hp1 hg
  have hr := ho.row
  clear ho hg hs
  go_wp2
  go_ret
  exact ⟨_, _, _, ys, rfl, hr, by omega, B⟩

theorem Row.take {w : World} {a : Option Addr} {n k : Nat} {xs : List Int} (h : Row w 1 a n (ints xs)) (hk : k ≤ n) : Row w 1 a k (ints (xs.take k)) := by
  refine ⟨by have := h.len; simp [ints]; omega, fun h0 => ?_⟩
  obtain ⟨b, off, e, hc⟩ := h.2 (by omega)
  refine ⟨b, off, e, fun j u hu => hc j u ?_⟩
  simp only [ints, List.getElem?_map, List.getElem?_take] at hu ⊢
  split at hu
  · exact hu
  · simp at hu
theorem Own.cap {w : World} {lo hi E s n c : Nat} {a : Option Addr} {vs : List Value} (h : Own w lo hi E s a n c vs) : n ≤ c := by
  rcases h.1.2 with ⟨hv, h0⟩ | ⟨g, cap, cur, hv, _, _, hnc, _⟩
  · injection hv with _ h1 h2; omega
  · injection hv with _ h1 h2; omega

/-- A list that a draw hands out: its row alone. -/
def RowDraw (p : Nat) (w : World) (e : Ending) (w' : World) : Prop := ∃ (a : Option Addr) (q c : Nat) (ys : List Int), e = .returned (.slice a q c) ∧ Row w' 1 a q (ints ys) ∧ q ≤ 1300 ∧ SrcOk w' p ∧ w.grownBy w' (some p) ∧ (0 < q → ∀ b off, a = some ⟨b, off, none⟩ → p < b)
theorem Own.farFrom {w : World} {lo hi E s n c p : Nat} {a : Option Addr} {vs : List Value} (h : Own w lo hi E s a n c vs) (hp : p < lo) : 0 < n → ∀ b off, a = some ⟨b, off, none⟩ → p < b := by
  intro hn b off e
  obtain ⟨g, e', h1, -, -⟩ := h.head hn
  rw [e] at e'
  injection e' with e'
  injection e' with e' _ _
  omega

set_option maxHeartbeats 3200000 in
theorem l27DrawCode_any (p : Nat) (w : World) (h : SrcOk w p) :
    Calls Try.prog 20 #[.pointer (some ⟨p, 0, none⟩)] w (RowDraw p w) := by
  have hpw := h.lt
  go_enter Try.func20, Try.ntmps20
  go_wp2_with fail
  go_at_call 36
  refine (l27DrawMessage_any _ _ h).mono ?_
  intro e w1 hd
  obtain ⟨a, q, c, ms, rfl, ho, hq, hs, G⟩ := hd
  have hr := ho.row
  have hfar := Lib.hid (ho.farFrom hpw)
  have HS := Lib.hid hs
  clear hs ho
  cases hok : listOk 300 0 1 ms
  · go_wp2_with (go_at_call 38; refine (l27Message_any _ _ _ _ _ hr (by omega)).mono ?_; rintro e w' ⟨rfl, rfl⟩)
    go_ret
    exact ⟨_, _, _, ms, rfl, hr, hq, HS.out, G, hfar.out⟩
  · have hle := listOk_le hok hr.len
    have hb := Lib.hid (Bits.of hok)
    go_wp2_with (go_at_call 38; refine (l27Message_any _ _ _ _ _ hr (by omega)).mono ?_; rintro e w' ⟨rfl, rfl⟩)
    go_at_call 35
    refine (l27Encode_any _ _ _ _ _ hr (by omega) hb.out).mono ?_
    rintro e w2 ⟨a2, c2, rfl, o2, hb2⟩
    have hsz1 := G.size
    replace o2 := o2.mono (lo' := w1.heap.size) (Nat.le_refl _) (Nat.le_refl _)
    have G2 := G.trans (grown_of_below' hb2)
    have HS2 := Lib.hid (HS.out.below hb2 HS.out.lt)
    have hp2 : p < w1.heap.size := HS.out.lt
    clear hb2 HS G hr
    obtain ⟨N, hN⟩ : ∃ N, 2 * (q + 2) = N := ⟨_, rfl⟩
    rw [hN] at o2 ⊢
    have hN2 : N ≤ 604 := by omega
    have hN4 : 4 ≤ N := by omega
    clear hN
    go_wp2_with fail
    go_at_call 22
    refine (l01Next_any _ _ _ HS2.out (by omega)).mono ?_
    rintro e w3 ⟨t, rfl, -, hs3, hg⟩
    replace o2 := (own_far o2 hp2 hg).leave
    replace G2 := G2.trans hg
    have HS3 := Lib.hid hs3
    clear hs3 hg HS2
    by_cases t0 : t = 0
    · subst t0
      go_wp2_with fail
      go_at_call 22
      refine (l01Next_any _ _ _ HS3.out (by omega)).mono ?_
      rintro e w4 ⟨k, rfl, ⟨hk0, hk1, -⟩, hs4, hg⟩
      have hkN := hk1 (by omega)
      obtain ⟨K, rfl⟩ := Int.eq_ofNat_of_zero_le hk0
      have hKN : K < N := by omega
      have o4 := (own_far o2 hp2 hg).leave
      have G4 := G2.trans hg
      have HS4 := Lib.hid hs4
      obtain ⟨g, rfl, hg1, -, -⟩ := o4.head (by omega)
      have hfz := o4.frozenAt K
      have hll := Lib.hid o4.row.len
      have hlen : (encL ms).length = N := by have h := hll.out; simpa [ints] using h
      obtain ⟨x, hxx⟩ : ∃ x, (encL ms)[K]? = some x := ⟨_, List.getElem?_eq_getElem (by omega)⟩
      have hxb := (enc_bits'' (ms ++ [0, 0]) 0).get (show (enc 0 (ms ++ [0, 0]))[K]? = some x from hxx)
      have hcv : w4.cell? ⟨g, K, none⟩ = some (.int .i64 x) := by
        rw [o4.cellAt K (by omega)]
        simp [ints, hxx]
      have hst := o4.stored K (.int .i64 (1 - x))
      have e1 : (ints (encL ms)).set K (.int .i64 (1 - x)) = ints ((encL ms).set K (1 - x)) := by simp [ints, List.map_set]
      rw [e1] at hst
      have HR := Lib.hid hst.1.row
      have hfar2 := Lib.hid (hst.1.farFrom hp2)
      have HF := Lib.hid (show w.grownBy (w4.setCell ⟨g, K, none⟩ (.int .i64 (1 - x))) (some p) from grown_below G4 ((Below.refl _ _).setCell (p := ⟨g, K, none⟩) (by simp; omega) _))
      have HS5 := Lib.hid (show SrcOk (w4.setCell ⟨g, K, none⟩ (.int .i64 (1 - x))) p from HS4.out.below ((Below.refl w1.heap.size w4).setCell (p := ⟨g, K, none⟩) (by simp; omega) _) hp2)
      clear hxx hlen hst e1 o4 G4 HS4 o2 G2 HS3 hg hs4 hk1 hll hb
      go_wp2
      go_ret
      exact ⟨_, _, _, _, rfl, HR.out, by omega, HS5.out, HF.out, hfar2.out⟩
    · have f0 : (t == 0) = false := by simpa using t0
      clear t0
      by_cases t1 : t = 1
      · subst t1
        go_wp2_with fail
        go_at_call 22
        refine (l01Next_any _ _ _ HS3.out (by omega)).mono ?_
        rintro e w4 ⟨k, rfl, ⟨hk0, hk1, -⟩, hs4, hg⟩
        have hkN := hk1 (by omega)
        obtain ⟨K, rfl⟩ := Int.eq_ofNat_of_zero_le hk0
        have hKN : K ≤ N := by omega
        have o4 := (own_far o2 hp2 hg).leave
        have hcap := o4.cap
        have hKc : (K : Int) ≤ (c2 : Int) := by omega
        have G4 := G2.trans hg
        have hr4 := o4.row.take hKN
        have hfar2 := Lib.hid (o4.farFrom hp2)
        have hN0 : 0 < N := by omega
        obtain ⟨g, rfl, -, -, -⟩ := o4.head (by omega)
        clear o4 o2 G2 HS3 hg hk1
        go_wp2
        go_ret
        exact ⟨_, _, _, _, rfl, hr4, by omega, hs4, G4, fun _ => hfar2.out hN0⟩
      · have f1 : (t == 1) = false := by simpa using t1
        clear t1
        go_wp2
        go_ret
        exact ⟨_, _, _, _, rfl, o2.row, by omega, HS3.out, G2, o2.farFrom hp2⟩

theorem dice_grown {w w' : World} {p g : Nat} (h : DiceOk w p) (hg : w.grownBy w' (some g)) (hp : p < g) : DiceOk w' p :=
  h.keep fun b hb => hg.block b (by have := h.lt; omega) (by intro e; injection e with e; omega)
theorem zip_snoc {ms ys : List Int} {k : Nat} {x r : Int} (hx : ms[k]? = some x) (hl : ys.length = k) : List.zipWith xorI (ms.take (k + 1)) (ys ++ [r]) = List.zipWith xorI (ms.take k) ys ++ [xorI x r] := by
  have hk : k < ms.length := (List.getElem?_eq_some_iff.1 hx).1
  have e : ms.take (k + 1) = ms.take k ++ [x] := by rw [List.take_add_one, hx]; rfl
  rw [e, List.zipWith_append (by simp; omega)]
  rfl
theorem bits_snoc {ys : List Int} {r : Int} (h : Bits ys) (hr : 0 ≤ r ∧ r ≤ 1) : Bits (ys ++ [r]) := by
  intro x hx
  rcases List.mem_append.1 hx with hx | hx
  · exact h x hx
  · simp at hx; subst hx; exact hr
end Go.Proofs.Ytbdlihocnpppaaa
