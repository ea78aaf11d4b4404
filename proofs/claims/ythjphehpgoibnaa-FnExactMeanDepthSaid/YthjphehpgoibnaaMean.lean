/- The means of all known cells, by both programs. -/
import Derived.Test.YthjphehpgoibnaaCell
import Derived.Test.YthjphehpgoibnaaDiv
namespace Go.Proofs.Ythjphehpgoibnaa
open Go.RowKit
set_option maxRecDepth 100000
set_option linter.unusedVariables false

/-- The sums of the bounds of the known cells, and their number. -/
def sums : Int → Int → Int → List Int → List (Int × Int) → Int × Int × Int
  | l, h, k, c :: cs, d :: ds => if c = 0 then sums l h k cs ds else sums (l + d.1) (h + d.2) (k + 1) cs ds
  | l, h, k, _, _ => (l, h, k)
def meanOf (r : Int × Int × Int) : (Int × Int) × Int := if r.2.2 = 0 then ((0, 0), 4) else ((r.1 / r.2.2, -(-r.2.1 / r.2.2)), 0)
def meanDepth (s x y : Int) (cs : List Int) (ds : List (Int × Int)) : (Int × Int) × Int := if !(gridOk s x y cs ds) then ((0, 0), 1) else meanOf (sums 0 0 0 cs ds)
theorem meanDepth_no {s x y : Int} {cs : List Int} {ds : List (Int × Int)} (h : gridOk s x y cs ds = false) : meanDepth s x y cs ds = ((0, 0), 1) := by simp [meanDepth, h]
theorem meanDepth_yes {s x y : Int} {cs : List Int} {ds : List (Int × Int)} {l h k : Int} (hg : gridOk s x y cs ds = true) (hs : sums 0 0 0 cs ds = (l, h, k)) : meanDepth s x y cs ds = meanOf (l, h, k) := by simp [meanDepth, hg, hs]

theorem cellsOk_get : ∀ {cs : List Int} {ds : List (Int × Int)} {k : Nat} {c : Int} {d : Int × Int}, cellsOk cs ds = true → cs[k]? = some c → ds[k]? = some d → cellOk c d = true
  | [], _, _, _, _, _, hc, _ => by simp at hc
  | _ :: _, [], _, _, _, _, _, hd => by simp at hd
  | c' :: cs, d' :: ds, k, c, d, h, hc, hd => by
    simp only [cellsOk, Bool.and_eq_true] at h
    cases k with
    | zero => simp at hc hd; subst hc; subst hd; exact h.1
    | succ k => exact cellsOk_get h.2 (by simpa using hc) (by simpa using hd)
theorem cellOk_true {c : Int} {l h : Int} (e : cellOk c (l, h) = true) : (-1 ≤ c ∧ c ≤ 1000000000000) ∧ ((-1000000000000 ≤ l ∧ l ≤ 1000000000000) ∧ (-1000000000000 ≤ h ∧ h ≤ 1000000000000) ∧ l ≤ h) := by
  simp only [cellOk, Bool.and_eq_true] at e
  refine ⟨?_, ivOk_true e.1.2⟩
  have := e.1.1
  simp [inR] at this
  exact this

def SmInv (cs : List Int) (ds : List (Int × Int)) (k : Nat) (l h q : Int) : Prop := sums l h q (cs.drop k) (ds.drop k) = sums 0 0 0 cs ds
theorem SmInv.start (cs : List Int) (ds : List (Int × Int)) : SmInv cs ds 0 0 0 0 := rfl
theorem SmInv.skip {cs : List Int} {ds : List (Int × Int)} {k : Nat} {l h q : Int} {d : Int × Int} (e : SmInv cs ds k l h q) (hc : cs[k]? = some 0) (hd : ds[k]? = some d) : SmInv cs ds (k + 1) l h q := by
  unfold SmInv at e ⊢
  rw [← e, drop_at hc, drop_at hd, sums, if_pos rfl]
theorem SmInv.add {cs : List Int} {ds : List (Int × Int)} {k : Nat} {l h q c lo hi : Int} (e : SmInv cs ds k l h q) (hc : cs[k]? = some c) (hd : ds[k]? = some (lo, hi)) (h0 : c ≠ 0) : SmInv cs ds (k + 1) (l + lo) (h + hi) (q + 1) := by
  unfold SmInv at e ⊢
  rw [← e, drop_at hc, drop_at hd, sums, if_neg h0]
theorem SmInv.done {cs : List Int} {ds : List (Int × Int)} {k n : Nat} {l h q : Int} (e : SmInv cs ds k l h q) (hl : cs.length = n) (hk : ¬ k < n) : sums 0 0 0 cs ds = (l, h, q) := by
  unfold SmInv at e
  rw [← e, List.drop_of_length_le (by omega)]; simp [sums]

set_option maxHeartbeats 3200000 in
theorem meanDepth_spec (s x y : Int) (a b : Option Addr) (n c m d : Nat) (xs : List Int) (ds : List (Int × Int)) (w : World) (h : Row w 1 a n (ints xs)) (hd : Row w 2 b m (prs ds)) (hn : n ≤ 1048576) (hm : m ≤ 1048576) :
    Calls Try.prog 19 #[.agg #[.int .i64 s, .int .i64 x, .int .i64 y, .slice a n c, .slice b m d]] w fun e w' => e = .returned (.tuple #[.agg #[.int .i64 (meanDepth s x y xs ds).1.1, .int .i64 (meanDepth s x y xs ds).1.2], .int .i64 (meanDepth s x y xs ds).2]) ∧ Below w.heap.size w w' := by
  have h1 := (h.alloc (.cells #[.int .i64 s, .int .i64 x, .int .i64 y, .slice a n c, .slice b m d] 30)).alloc (.cells #[.int .i64 0, .int .i64 0] 39)
  have d1 := (hd.alloc2 (.cells #[.int .i64 s, .int .i64 x, .int .i64 y, .slice a n c, .slice b m d] 30)).alloc2 (.cells #[.int .i64 0, .int .i64 0] 39)
  have B : Below w.heap.size w ((w.alloc (.cells #[.int .i64 s, .int .i64 x, .int .i64 y, .slice a n c, .slice b m d] 30)).alloc (.cells #[.int .i64 0, .int .i64 0] 39)) := by go_grown
  have K := Lib.hid ((Blk.new w 30 #[.int .i64 s, .int .i64 x, .int .i64 y, .slice a n c, .slice b m d]).alloc (.cells #[.int .i64 0, .int .i64 0] 39))
  have J := Lib.hid (Blk.new' (w.alloc (.cells #[.int .i64 s, .int .i64 x, .int .i64 y, .slice a n c, .slice b m d] 30)) 39 #[.int .i64 0, .int .i64 0] (g := w.heap.size + 1) (by simp))
  cases hg : gridOk s x y xs ds
  · rw [meanDepth_no hg]
    go_enter Try.func19, Try.ntmps19
    go_wp2_with fail
    go_at_call 11
    refine (isDepthGrid_spec _ _ _ _ _ _ _ _ _ _ _ _ h1 d1 hn hm).mono ?_
    rintro e w2 ⟨rfl, hb⟩
    have B2 := B.trans (hb.mono B.size)
    have J2 := J.out.belowSelf hb
    have q0 : w2.cell? ⟨w.heap.size + 1, 0, none⟩ = some (.int .i64 0) := J2.cell 0
    have q1 : w2.cell? ⟨w.heap.size + 1, 1, none⟩ = some (.int .i64 0) := J2.cell 1
    have f0 := J2.frozen 0
    have f1 := J2.frozen 1
    have hlt := J2.lt
    rw [hg]
    have HF := (J2.set_ 0 (.int .i64 0)).set_ 1 (.int .i64 0)
    have HB := (B2.setCell (p := ⟨w.heap.size + 1, 0, none⟩) (by simp) (.int .i64 0)).setCell (p := ⟨w.heap.size + 1, 1, none⟩) (by simp) (.int .i64 0)
    have HF' := Lib.hid HF; have HB' := Lib.hid HB; clear HF HB J2
    go_wp2
    have z0 := HF'.out.cell 0
    have z1 := HF'.out.cell 1
    exact bodyPost_ret (v := .tuple #[.agg #[.int .i64 0, .int .i64 0], .int .i64 1]) (by simp only [results, Try.results19, Array.size]; simp [go_sem, z0, z1]) rfl ⟨rfl, HB'.out⟩
  obtain ⟨gsh, hcl, hml, hco⟩ := gridOk_shape hg
  obtain ⟨-, g3, g4⟩ := shapeOk_true gsh
  have hp1 : x * y ≤ 30 * 30 := Int.mul_le_mul (by omega) (by omega) (by omega) (by omega)
  obtain rfl : m = n := by have := h.len; have := hd.len2; omega
  have hxl := h.len
  have hm9 : m ≤ 900 := by omega
  clear hcl gsh g3 g4 hp1
  generalize hres : meanDepth s x y xs ds = res
  replace hres := Lib.hid hres
  replace hco := Lib.hid hco
  go_enter Try.func19, Try.ntmps19
  go_wp2_with fail
  go_at_call 11
  refine (isDepthGrid_spec _ _ _ _ _ _ _ _ _ _ _ _ h1 d1 hn hm).mono ?_
  rintro e w2 ⟨rfl, hb⟩
  have B2 := B.trans (hb.mono B.size)
  have K2 := Lib.hid (K.out.belowSelf hb)
  have J2 := Lib.hid (J.out.belowSelf hb)
  clear hb h1 d1 B K J
  rw [hg]
  replace hg := Lib.hid hg
  go_wp2
  go_loop [4, 5, 6, 7] (fun l u q i => ∃ (k : Nat) (L U Q : Int), k ≤ m ∧ i = .int .i64 k ∧ l = .int .i64 L ∧ u = .int .i64 U ∧ q = .int .i64 Q ∧ (-1000000000000 * (k : Int) ≤ L ∧ L ≤ 1000000000000 * k) ∧ (-1000000000000 * (k : Int) ≤ U ∧ U ≤ 1000000000000 * k) ∧ 0 ≤ Q ∧ Q ≤ k ∧ Hid (SmInv xs ds k L U Q)) (fun _ _ _ i => m - (intOf i).toNat)
  case atStart => exact ⟨0, 0, 0, 0, Nat.zero_le _, rfl, rfl, rfl, rfl, by omega, by omega, by omega, by omega, SmInv.start _ _⟩
  case round =>
    obtain ⟨k, L, U, Q, hk, rfl, rfl, rfl, rfl, hL, hU, hQ0, hQ, hinv⟩ := hrel
    have j3 : w2.cell? ⟨w.heap.size, 3, none⟩ = some (.slice a m c) := K2.out.cell 3
    have j4 : w2.cell? ⟨w.heap.size, 4, none⟩ = some (.slice b m d) := K2.out.cell 4
    by_cases hlt : k < m
    · obtain ⟨b1, off1, cc, rfl, hc, hx⟩ := (h.below B2 (Nat.le_refl _)).at_ hlt
      obtain ⟨b2, off2, lo, hi, rfl, hc0, hc1, hy⟩ := (hd.below2 B2 (Nat.le_refl _)).at2 hlt
      obtain ⟨-, hlo, hhi, -⟩ := cellOk_true (cellsOk_get hco.out hx.out hy.out)
      by_cases t0 : cc = 0
      · subst t0
        have hst := Lib.hid (hinv.out.skip hx.out hy.out)
        clear hinv
        go_wp2
        go_round
        case rel => exact ⟨k + 1, L, U, Q, by omega, by go_num, rfl, rfl, rfl, by omega, by omega, by omega, by omega, hst.out⟩
        case measure => simp [intOf]; omega
      · have t01 : (cc == 0) = false := by simpa using t0
        have t02 : (cc != 0) = true := by simpa using t0
        have hst := Lib.hid (hinv.out.add hx.out hy.out t0)
        clear hinv
        go_wp2
        go_round
        case rel => exact ⟨k + 1, L + lo, U + hi, Q + 1, by omega, by go_num, by go_num, by go_num, by go_num, by omega, by omega, by omega, by omega, hst.out⟩
        case measure => simp [intOf]; omega
    · have hs := hinv.out.done hxl hlt
      have hr := meanDepth_yes hg.out hs
      rw [hres.out] at hr
      have q0 : w2.cell? ⟨w.heap.size + 1, 0, none⟩ = some (.int .i64 0) := J2.out.cell 0
      have q1 : w2.cell? ⟨w.heap.size + 1, 1, none⟩ = some (.int .i64 0) := J2.out.cell 1
      have f0 := J2.out.frozen 0
      have f1 := J2.out.frozen 1
      have hlt2 := J2.out.lt
      have HF := fun u v => (J2.out.set_ 0 (.int .i64 u)).set_ 1 (.int .i64 v)
      have HB := fun u v => (B2.setCell (p := ⟨w.heap.size + 1, 0, none⟩) (by simp) (.int .i64 u)).setCell (p := ⟨w.heap.size + 1, 1, none⟩) (by simp) (.int .i64 v)
      have HF' := Lib.hid HF; have HB' := Lib.hid HB; clear HF HB
      by_cases hQz : Q = 0
      · subst hQz
        have hr2 : res = ((0, 0), 4) := hr.trans (by simp [meanOf])
        subst hr2
        clear hr
        go_wp2
        have z0 := (HF'.out 0 0).cell 0
        have z1 := (HF'.out 0 0).cell 1
        exact bodyPost_ret (v := .tuple #[.agg #[.int .i64 0, .int .i64 0], .int .i64 4]) (by simp only [results, Try.results19, Array.size]; simp [go_sem, z0, z1]) rfl ⟨rfl, HB'.out 0 0⟩
      · have hQb : (Q == 0) = false := by simpa using hQz
        have hr2 : res = ((L / Q, -(-U / Q)), 0) := hr.trans (by simp [meanOf, hQz])
        subst hr2
        clear hr
        go_wp2_with (first | (go_at_call 57; refine (l01Floor_any _ _ _ (by omega) (by omega) (by omega) (by omega)).mono ?_; rintro e w' ⟨rfl, rfl⟩) | (go_at_call 58; refine (l01Ceil_any _ _ _ (by omega) (by omega) (by omega) (by omega)).mono ?_; rintro e w' ⟨rfl, rfl⟩))
        have z0 := (HF'.out (L / Q) (-(-U / Q))).cell 0
        have z1 := (HF'.out (L / Q) (-(-U / Q))).cell 1
        exact bodyPost_ret (v := .tuple #[.agg #[.int .i64 (L / Q), .int .i64 (-(-U / Q))], .int .i64 0]) (by simp only [results, Try.results19, Array.size]; simp [go_sem, z0, z1]) rfl ⟨rfl, HB'.out _ _⟩

theorem plus_any (l h l2 h2 : Int) (w : World) (b1 : -1000000000000000000 ≤ l ∧ l ≤ 1000000000000000000) (b2 : -1000000000000000000 ≤ h ∧ h ≤ 1000000000000000000) (b3 : -1000000000000000000 ≤ l2 ∧ l2 ≤ 1000000000000000000) (b4 : -1000000000000000000 ≤ h2 ∧ h2 ≤ 1000000000000000000) :
    Calls Try.prog 59 #[.agg #[.int .i64 l, .int .i64 h], .agg #[.int .i64 l2, .int .i64 h2]] w fun e w' => e = .returned (.agg #[.int .i64 (l + l2), .int .i64 (h + h2)]) ∧ Below w.heap.size w w' := by
  go_enter Try.func59, Try.ntmps59
  go_wp2
  go_returns
  exact ⟨rfl, by go_grown⟩

set_option maxHeartbeats 3200000 in
theorem meanDepth_impl (s x y : Int) (a b : Option Addr) (n c m d : Nat) (xs : List Int) (ds : List (Int × Int)) (w : World) (h : Row w 1 a n (ints xs)) (hd : Row w 2 b m (prs ds)) (hn : n ≤ 1048576) (hm : m ≤ 1048576) :
    Calls Try.prog 20 #[.agg #[.int .i64 s, .int .i64 x, .int .i64 y, .slice a n c, .slice b m d]] w fun e w' => e = .returned (.tuple #[.agg #[.int .i64 (meanDepth s x y xs ds).1.1, .int .i64 (meanDepth s x y xs ds).1.2], .int .i64 (meanDepth s x y xs ds).2]) ∧ Below w.heap.size w w' := by
  have h1 := (h.alloc (.cells #[.int .i64 s, .int .i64 x, .int .i64 y, .slice a n c, .slice b m d] 30)).alloc (.cells #[.int .i64 0, .int .i64 0] 39)
  have d1 := (hd.alloc2 (.cells #[.int .i64 s, .int .i64 x, .int .i64 y, .slice a n c, .slice b m d] 30)).alloc2 (.cells #[.int .i64 0, .int .i64 0] 39)
  have B : Below w.heap.size w ((w.alloc (.cells #[.int .i64 s, .int .i64 x, .int .i64 y, .slice a n c, .slice b m d] 30)).alloc (.cells #[.int .i64 0, .int .i64 0] 39)) := by go_grown
  have K := Lib.hid ((Blk.new w 30 #[.int .i64 s, .int .i64 x, .int .i64 y, .slice a n c, .slice b m d]).alloc (.cells #[.int .i64 0, .int .i64 0] 39))
  have J := Lib.hid (Blk.new' (w.alloc (.cells #[.int .i64 s, .int .i64 x, .int .i64 y, .slice a n c, .slice b m d] 30)) 39 #[.int .i64 0, .int .i64 0] (g := w.heap.size + 1) (by simp))
  cases hg : gridOk s x y xs ds
  · rw [meanDepth_no hg]
    go_enter Try.func20, Try.ntmps20
    go_wp2_with fail
    go_at_call 13
    refine (isDepthGrid_impl _ _ _ _ _ _ _ _ _ _ _ _ h1 d1 hn hm).mono ?_
    rintro e w2 ⟨rfl, hb⟩
    have B2 := B.trans (hb.mono B.size)
    have J2 := J.out.belowSelf hb
    have q0 : w2.cell? ⟨w.heap.size + 1, 0, none⟩ = some (.int .i64 0) := J2.cell 0
    have q1 : w2.cell? ⟨w.heap.size + 1, 1, none⟩ = some (.int .i64 0) := J2.cell 1
    have f0 := J2.frozen 0
    have f1 := J2.frozen 1
    have hlt := J2.lt
    rw [hg]
    have HF := (J2.set_ 0 (.int .i64 0)).set_ 1 (.int .i64 0)
    have HB := (B2.setCell (p := ⟨w.heap.size + 1, 0, none⟩) (by simp) (.int .i64 0)).setCell (p := ⟨w.heap.size + 1, 1, none⟩) (by simp) (.int .i64 0)
    have HF' := Lib.hid HF; have HB' := Lib.hid HB; clear HF HB J2
    go_wp2
    have z0 := HF'.out.cell 0
    have z1 := HF'.out.cell 1
    exact bodyPost_ret (v := .tuple #[.agg #[.int .i64 0, .int .i64 0], .int .i64 1]) (by simp only [results, Try.results20, Array.size]; simp [go_sem, z0, z1]) rfl ⟨rfl, HB'.out⟩
  obtain ⟨gsh, hcl, hml, hco⟩ := gridOk_shape hg
  obtain ⟨-, g3, g4⟩ := shapeOk_true gsh
  have hp1 : x * y ≤ 30 * 30 := Int.mul_le_mul (by omega) (by omega) (by omega) (by omega)
  obtain rfl : m = n := by have := h.len; have := hd.len2; omega
  have hxl := h.len
  have hm9 : m ≤ 900 := by omega
  clear hcl gsh g3 g4 hp1
  generalize hres : meanDepth s x y xs ds = res
  replace hres := Lib.hid hres
  replace hco := Lib.hid hco
  go_enter Try.func20, Try.ntmps20
  go_wp2_with fail
  go_at_call 13
  refine (isDepthGrid_impl _ _ _ _ _ _ _ _ _ _ _ _ h1 d1 hn hm).mono ?_
  rintro e w2 ⟨rfl, hb⟩
  have B2 := B.trans (hb.mono B.size)
  have K2 := Lib.hid (K.out.belowSelf hb)
  have J2 := Lib.hid (J.out.belowSelf hb)
  clear hb h1 d1 B K J
  rw [hg]
  replace hg := Lib.hid hg
  have k3 : w2.cell? ⟨w.heap.size, 3, none⟩ = some (.slice a m c) := K2.out.cell 3
  have k4 : w2.cell? ⟨w.heap.size, 4, none⟩ = some (.slice b m d) := K2.out.cell 4
  have hlt2 := J2.out.lt
  have hlt3 := K2.out.lt
  go_wp2
  clear k3 k4
  go_loopw [5, 15] (fun q i wr => ∃ (k : Nat) (L U Q : Int), k ≤ m ∧ i = .int .i64 k ∧ q = .int .i64 Q ∧ (-1000000000000 * (k : Int) ≤ L ∧ L ≤ 1000000000000 * k) ∧ (-1000000000000 * (k : Int) ≤ U ∧ U ≤ 1000000000000 * k) ∧ 0 ≤ Q ∧ Q ≤ k ∧ Hid (SmInv xs ds k L U Q) ∧ Below w.heap.size w wr ∧ Blk wr w.heap.size 30 #[.int .i64 s, .int .i64 x, .int .i64 y, .slice a m c, .slice b m d] ∧ Blk wr (w.heap.size + 1) 39 #[.int .i64 0, .int .i64 0] ∧ Blk wr w2.heap.size 39 #[.int .i64 L, .int .i64 U]) (fun _ i _ => m - (intOf i).toNat)
  case atStart => exact ⟨0, 0, 0, 0, Nat.zero_le _, rfl, rfl, by omega, by omega, by omega, by omega, SmInv.start _ _, B2.alloc B2.size _, K2.out.alloc _, J2.out.alloc _, Blk.new _ _ _⟩
  case round =>
    obtain ⟨k, L, U, Q, hk, rfl, rfl, hL, hU, hQ0, hQ, hinv, hbel, hblk, hblk1, hblk2⟩ := hrel
    have j3 : wr.cell? ⟨w.heap.size, 3, none⟩ = some (.slice a m c) := hblk.cell 3
    have j4 : wr.cell? ⟨w.heap.size, 4, none⟩ = some (.slice b m d) := hblk.cell 4
    have s0 : wr.cell? ⟨w2.heap.size, 0, none⟩ = some (.int .i64 L) := hblk2.cell 0
    have s1 : wr.cell? ⟨w2.heap.size, 1, none⟩ = some (.int .i64 U) := hblk2.cell 1
    have hsz := hblk.lt
    have hsz2 := hblk2.lt
    by_cases hlt : k < m
    · obtain ⟨b1, off1, cc, rfl, hc, hx⟩ := (h.below hbel (Nat.le_refl _)).at_ hlt
      obtain ⟨b2, off2, lo, hi, rfl, hc0, hc1, hy⟩ := (hd.below2 hbel (Nat.le_refl _)).at2 hlt
      obtain ⟨-, hlo, hhi, -⟩ := cellOk_true (cellsOk_get hco.out hx.out hy.out)
      have hbb1 : b1 < wr.heap.size := World.block_lt_of_cell? wr _ hc
      by_cases t0 : cc = 0
      · subst t0
        have hst := Lib.hid (hinv.out.skip hx.out hy.out)
        clear hinv
        go_wp2
        go_roundw
        case rel => exact ⟨k + 1, L, U, Q, by omega, by go_num, rfl, by omega, by omega, by omega, by omega, hst.out, hbel.alloc hbel.size _, hblk.alloc _, hblk1.alloc _, hblk2.alloc _⟩
        case measure => simp [intOf]; omega
      · have t01 : (cc == 0) = false := by simpa using t0
        have t02 : (cc != 0) = true := by simpa using t0
        have hst := Lib.hid (hinv.out.add hx.out hy.out t0)
        clear hinv
        go_wp2_with fail
        go_at_call 59
        refine (plus_any _ _ _ _ _ (by omega) (by omega) (by omega) (by omega)).mono ?_
        rintro e w5 ⟨rfl, hb⟩
        have B5 := (hbel.alloc hbel.size (.cells #[.int .i64 lo, .int .i64 hi] 39)).trans (hb.mono (by simp; omega))
        have q1 := (hblk.alloc (.cells #[.int .i64 lo, .int .i64 hi] 39)).belowSelf hb
        have q2 := (hblk1.alloc (.cells #[.int .i64 lo, .int .i64 hi] 39)).belowSelf hb
        have q3 := (hblk2.alloc (.cells #[.int .i64 lo, .int .i64 hi] 39)).belowSelf hb
        clear hb s0 s1 j3 j4 hc hc0 hc1
        have s0 : w5.cell? ⟨w2.heap.size, 0, none⟩ = some (.int .i64 L) := q3.cell 0
        have s1 : w5.cell? ⟨w2.heap.size, 1, none⟩ = some (.int .i64 U) := q3.cell 1
        have f0 := q3.frozen 0
        have f1 := q3.frozen 1
        have HB := Lib.hid ((B5.setCell (p := ⟨w2.heap.size, 0, none⟩) (by simp; omega) (.int .i64 (L + lo))).setCell (p := ⟨w2.heap.size, 1, none⟩) (by simp; omega) (.int .i64 (U + hi)))
        have H1 := Lib.hid ((q1.far (p := ⟨w2.heap.size, 0, none⟩) (by simp; omega) (.int .i64 (L + lo))).far (p := ⟨w2.heap.size, 1, none⟩) (by simp; omega) (.int .i64 (U + hi)))
        have H2 := Lib.hid ((q2.far (p := ⟨w2.heap.size, 0, none⟩) (by simp; omega) (.int .i64 (L + lo))).far (p := ⟨w2.heap.size, 1, none⟩) (by simp; omega) (.int .i64 (U + hi)))
        have H3 := Lib.hid ((q3.set_ 0 (.int .i64 (L + lo))).set_ 1 (.int .i64 (U + hi)))
        clear B5 q1 q2 q3 hbel hblk hblk1 hblk2
        go_wp2
        go_roundw
        case rel => exact ⟨k + 1, L + lo, U + hi, Q + 1, by omega, by go_num, by go_num, by omega, by omega, by omega, by omega, hst.out, HB.out, H1.out, H2.out, H3.out⟩
        case measure => simp [intOf]; omega
    · have hs := hinv.out.done hxl hlt
      have hr := meanDepth_yes hg.out hs
      rw [hres.out] at hr
      have q0 : wr.cell? ⟨w.heap.size + 1, 0, none⟩ = some (.int .i64 0) := hblk1.cell 0
      have q1 : wr.cell? ⟨w.heap.size + 1, 1, none⟩ = some (.int .i64 0) := hblk1.cell 1
      have f0 := hblk1.frozen 0
      have f1 := hblk1.frozen 1
      have HF := fun u v => (hblk1.set_ 0 (.int .i64 u)).set_ 1 (.int .i64 v)
      have HB := fun u v => (hbel.setCell (p := ⟨w.heap.size + 1, 0, none⟩) (by simp) (.int .i64 u)).setCell (p := ⟨w.heap.size + 1, 1, none⟩) (by simp) (.int .i64 v)
      have HF' := Lib.hid HF; have HB' := Lib.hid HB; clear HF HB hblk hblk1 hblk2
      by_cases hQz : Q = 0
      · subst hQz
        have hr2 : res = ((0, 0), 4) := hr.trans (by simp [meanOf])
        subst hr2
        clear hr
        go_wp2
        have z0 := (HF'.out 0 0).cell 0
        have z1 := (HF'.out 0 0).cell 1
        exact bodyPost_ret (v := .tuple #[.agg #[.int .i64 0, .int .i64 0], .int .i64 4]) (by simp only [results, Try.results20, Array.size]; simp [go_sem, z0, z1]) rfl ⟨rfl, HB'.out 0 0⟩
      · have hQb : (Q == 0) = false := by simpa using hQz
        have hr2 : res = ((L / Q, -(-U / Q)), 0) := hr.trans (by simp [meanOf, hQz])
        subst hr2
        clear hr
        go_wp2_with fail
        go_region_with (first | (go_at_call 60; refine (floorDiv_any _ _ _ (by omega) (by omega) (by omega) (by omega)).mono ?_; rintro e w' ⟨rfl, rfl⟩) | (go_at_call 61; refine (ceilDiv_any _ _ _ (by omega) (by omega) (by omega) (by omega)).mono ?_; rintro e w' ⟨rfl, rfl⟩))
        all_goals
          go_wp2
          have z0 := (HF'.out (L / Q) (-(-U / Q))).drew.cell 0
          have z1 := (HF'.out (L / Q) (-(-U / Q))).drew.cell 1
          exact bodyPost_ret (v := .tuple #[.agg #[.int .i64 (L / Q), .int .i64 (-(-U / Q))], .int .i64 0]) (by simp only [results, Try.results20, Array.size]; simp [go_sem, z0, z1]) rfl ⟨rfl, (HB'.out _ _).drew⟩
end Go.Proofs.Ythjphehpgoibnaa
