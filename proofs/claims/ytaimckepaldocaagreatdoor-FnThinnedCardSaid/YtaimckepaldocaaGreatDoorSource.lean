/- The draws' source of numbers: l01From, l01Next, l01Pick. What is said of a drawn number: that it lies in its range. -/
import Derived.Test.YtaimckepaldocaaGreatDoorInt
namespace Go.Proofs.YtaimckepaldocaaGreatDoor
open Go.RowKit
set_option maxRecDepth 100000
set_option linter.unusedVariables false

def bytes (bs : List Nat) : List Value := bs.map fun (b : Nat) => Value.int .u8 (b : Int)
theorem bytes_get {bs : List Nat} {k x : Nat} (h : bs[k]? = some x) : (bytes bs)[k]? = some (.int .u8 (x : Int)) := by simp [bytes, h]
theorem Row.atB {w : World} {a : Option Addr} {n k : Nat} {bs : List Nat} (h : Row w 1 a n (bytes bs)) (hk : k < n) :
    ∃ b off x, a = some ⟨b, off, none⟩ ∧ w.cell? ⟨b, off + k, none⟩ = some (.int .u8 ((x : Nat) : Int)) ∧ Hid (bs[k]? = some x) := by
  have hl : bs.length = n := by have := h.1; simpa [bytes] using this
  obtain ⟨b, off, e, hc⟩ := h.2 (by omega)
  have hx : bs[k]? = some bs[k] := List.getElem?_eq_getElem (by omega)
  exact ⟨b, off, bs[k], e, hc k _ (bytes_get hx), hx⟩

/-- The code that came in: at most 4096 bytes. -/
def Code8 (w : World) (a : Option Addr) (n : Nat) (bs : List Nat) : Prop := Row w 1 a n (bytes bs) ∧ n ≤ 4096 ∧ ∀ b ∈ bs, b ≤ 255
theorem Code8.below {w w' : World} {a : Option Addr} {n B : Nat} {bs : List Nat} (h : Code8 w a n bs) (hb : Below B w w') (hB : w.heap.size ≤ B) : Code8 w' a n bs := ⟨h.1.below hb hB, h.2⟩

/-- Block p holds a source over a code that lies below p. -/
def SrcOk (w : World) (p : Nat) : Prop := ∃ (a : Option Addr) (n c : Nat) (at_ seed : Int) (bs : List Nat),
  Blk w p 66 #[.slice a n c, .int .i64 at_, .int .i64 seed] ∧ 0 ≤ at_ ∧ at_ ≤ n ∧ 0 ≤ seed ∧ seed < 2147483647 ∧ Code8 w a n bs ∧ (0 < n → ∀ b off, a = some ⟨b, off, none⟩ → b < p)
theorem SrcOk.lt {w : World} {p : Nat} (h : SrcOk w p) : p < w.heap.size := by obtain ⟨a, n, c, t, s, bs, h, _⟩ := h; exact h.lt
theorem SrcOk.keep {w w' : World} {p : Nat} (h : SrcOk w p) (hk : ∀ b, b ≤ p → w'.heap[b]? = w.heap[b]?) : SrcOk w' p := by
  obtain ⟨a, n, c, t, s, bs, h1, h2, h3, h4, h5, ⟨h6, h6'⟩, h7⟩ := h
  refine ⟨a, n, c, t, s, bs, (hk p (Nat.le_refl _)).trans h1, h2, h3, h4, h5, ⟨?_, h6'⟩, h7⟩
  rcases Nat.eq_zero_or_pos n with h0 | h0
  · exact ⟨h6.1, fun hn => absurd hn (by omega)⟩
  · exact h6.keep (fun b off e _ => hk b (Nat.le_of_lt (h7 h0 b off e))) (by omega)
theorem SrcOk.below {w w' : World} {p B : Nat} (h : SrcOk w p) (hb : Below B w w') (hp : p < B) : SrcOk w' p := h.keep fun b hb' => hb.block b (by omega)
theorem SrcOk.alloc {w : World} {p : Nat} (h : SrcOk w p) (o : Obj) : SrcOk (w.alloc o) p := h.below ((Below.refl _ _).alloc (Nat.le_refl _) o) h.lt
theorem SrcOk.drew {w : World} {p : Nat} (h : SrcOk w p) : SrcOk w.drew p := h
theorem SrcOk.drewN {w : World} {p : Nat} (h : SrcOk w p) (k : Nat) : SrcOk (w.drewN k) p := h

theorem gdn {a w : World} {row : Option Nat} (h : a.grownBy w row) (n : Nat) : a.grownBy (w.drewN n) row := ⟨h.os, h.tape, h.output, h.size, h.block⟩
theorem gset {a w : World} {g : Nat} (h : a.grownBy w (some g)) (i : Nat) (u : Value) : a.grownBy (w.setCell ⟨g, i, none⟩ u) (some g) :=
  ⟨h.os, h.tape, h.output, by simpa [World.setCell] using h.size, fun k hk hne => (Below.heap_setCell w ⟨g, i, none⟩ u k (fun e => hne (by rw [e]))).trans (h.block k hk hne)⟩

theorem l01From_any (a : Option Addr) (n c : Nat) (bs : List Nat) (w : World) (h : Code8 w a n bs) :
    Calls Tryz.prog 17 #[.slice a n c] w fun e w' => ∃ p, e = .returned (.pointer (some ⟨p, 0, none⟩)) ∧ p = w.heap.size ∧ SrcOk w' p ∧ Below w.heap.size w w' := by
  obtain ⟨hR, hn, hbs⟩ := h
  have HB := Lib.hid hbs; clear hbs
  go_enter Tryz.func17, Tryz.ntmps17
  go_wp2
  go_loopw [4] (fun i wr => ∃ (k : Nat) (seed : Int), k ≤ n ∧ i = .int .i64 k ∧ Blk wr w.heap.size 66 #[.slice a n c, .int .i64 0, .int .i64 seed] ∧ 0 ≤ seed ∧ seed < 2147483647 ∧ Below w.heap.size w wr) (fun i _ => n - (intOf i).toNat)
  case atStart => exact ⟨0, 80051, Nat.zero_le _, rfl, Blk.new _ _ _, by omega, by omega, (Below.refl _ _).alloc (Nat.le_refl _) _⟩
  case round =>
    obtain ⟨k, seed, hk, rfl, hblk, hs0, hs1, hbel⟩ := hrel
    by_cases hlt : k < n ∧ k < 64
    · obtain ⟨hlt, hlt2⟩ := hlt
      obtain ⟨b, off, x, rfl, hc, hx⟩ := (hR.below hbel (Nat.le_refl _)).atB hlt
      have hxb := HB.out x (List.mem_of_getElem? hx.out)
      have k2 : wr.cell? ⟨w.heap.size, 2, none⟩ = some (.int .i64 seed) := hblk.cell 2
      have f2 := hblk.frozen 2
      have hset := hblk.set_ 2 (.int .i64 ((seed * 61 + x) % 2147483647))
      have hi : (k : Int) < (n : Int) := by omega
      have HS := Lib.hid hset; clear hset hblk
      go_wp2_with fail
      go_region
      all_goals
        go_wp2
        go_roundw
        case rel => exact ⟨k + 1, _, by omega, by go_num, HS.out.drew, by omega, by omega, (hbel.setCell (p := ⟨w.heap.size, 2, none⟩) (Nat.le_refl _) _).drew⟩
        case measure => simp [intOf] <;> omega
    · have hb : 0 < n → ∀ b off, a = some ⟨b, off, none⟩ → b < w.heap.size := by
        intro h0 b off e
        obtain ⟨b', off', x, e', hc, -⟩ := hR.atB h0
        rw [e] at e'
        injection e' with e'
        injection e' with e' _ _
        subst e'
        exact World.block_lt_of_cell? w _ hc
      have HB2 := Lib.hid hb; clear hb
      have hR' := hR.below hbel (Nat.le_refl _)
      go_wp2
      all_goals
        go_ret
        exact ⟨_, rfl, rfl, ⟨_, _, _, _, _, bs, hblk, by omega, by omega, hs0, hs1, ⟨hR', hn, HB.out⟩, HB2.out⟩, hbel⟩

theorem l01Next_one (p : Nat) (m : Int) (w : World) (hm : m ≤ 1) :
    Calls Tryz.prog 19 #[.pointer (some ⟨p, 0, none⟩), .int .i64 m] w fun e w' => e = .returned (.int .i64 0) ∧ w = w' := by
  go_enter Tryz.func19, Tryz.ntmps19
  go_wp2
  go_ret
  exact ⟨rfl, rfl⟩

theorem src_end {p : Nat} {w : World} {a : Option Addr} {n c : Nat} {t s t' s' : Int} {bs : List Nat} (hblk : Blk w p 66 #[.slice a n c, .int .i64 t, .int .i64 s])
    (h0 : 0 ≤ t') (h1 : t' ≤ n) (h2 : 0 ≤ s') (h3 : s' < 2147483647) (hC : Code8 w a n bs) (hap : 0 < n → ∀ b off, a = some ⟨b, off, none⟩ → b < p) (k k2 : Nat) :
    SrcOk ((((w.setCell ⟨p, 2, none⟩ (.int .i64 s')).drewN k).setCell ⟨p, 1, none⟩ (.int .i64 t')).drewN k2) p ∧ w.grownBy ((((w.setCell ⟨p, 2, none⟩ (.int .i64 s')).drewN k).setCell ⟨p, 1, none⟩ (.int .i64 t')).drewN k2) (some p) := by
  have g := gdn (gset (gdn (gset (World.grownBy.refl w (some p)) 2 (.int .i64 s')) k) 1 (.int .i64 t')) k2
  refine ⟨⟨a, n, c, t', s', bs, (((hblk.set_ 2 (.int .i64 s')).drewN k).set_ 1 (.int .i64 t')).drewN k2, h0, h1, h2, h3, ⟨?_, hC.2⟩, hap⟩, g⟩
  rcases Nat.eq_zero_or_pos n with e | e
  · exact ⟨hC.1.1, fun hn => absurd hn (by omega)⟩
  · exact hC.1.apart (by omega) g (fun b off e' h' => by have := hap e b off e'; injection h' with h'; omega)
theorem src_end0 {p : Nat} {w : World} {a : Option Addr} {n c : Nat} {t s s' : Int} {bs : List Nat} (hblk : Blk w p 66 #[.slice a n c, .int .i64 t, .int .i64 s])
    (h0 : 0 ≤ t) (h1 : t ≤ n) (h2 : 0 ≤ s') (h3 : s' < 2147483647) (hC : Code8 w a n bs) (hap : 0 < n → ∀ b off, a = some ⟨b, off, none⟩ → b < p) (k : Nat) :
    SrcOk ((w.setCell ⟨p, 2, none⟩ (.int .i64 s')).drewN k) p ∧ w.grownBy ((w.setCell ⟨p, 2, none⟩ (.int .i64 s')).drewN k) (some p) := by
  have g := gdn (gset (World.grownBy.refl w (some p)) 2 (.int .i64 s')) k
  refine ⟨⟨a, n, c, t, s', bs, (hblk.set_ 2 (.int .i64 s')).drewN k, h0, h1, h2, h3, ⟨?_, hC.2⟩, hap⟩, g⟩
  rcases Nat.eq_zero_or_pos n with e | e
  · exact ⟨hC.1.1, fun hn => absurd hn (by omega)⟩
  · exact hC.1.apart (by omega) g (fun b off e' h' => by have := hap e b off e'; injection h' with h'; omega)

theorem l01Next_more (p : Nat) (m : Int) (w : World) (h : SrcOk w p) (hm : 1 < m) (hm2 : m ≤ 1000000000000) :
    Calls Tryz.prog 19 #[.pointer (some ⟨p, 0, none⟩), .int .i64 m] w fun e w' => (∃ r : Int, e = .returned (.int .i64 r) ∧ 0 ≤ r ∧ r < m) ∧ SrcOk w' p ∧ w.grownBy w' (some p) := by
  obtain ⟨a, n, c, t, s, bs, hblk, ht0, ht1, hs0, hs1, ⟨hR, hn, hbs⟩, hap⟩ := h
  have HC := Lib.hid (show Code8 w a n bs from ⟨hR, hn, hbs⟩); clear hbs
  have HA := Lib.hid hap; clear hap
  have k2 : w.cell? ⟨p, 2, none⟩ = some (.int .i64 s) := hblk.cell 2
  have f2 := hblk.frozen 2
  have e0 := hblk.set_ 2 (.int .i64 ((s * 48271 + 41) % 2147483647))
  have c0 := e0.cell 0
  have c1 := e0.cell 1
  have c2 := e0.cell 2
  have c1f := e0.frozen 1
  simp at c0 c1 c2
  have b0 : 0 ≤ (s * 48271 + 41) % 2147483647 := by omega
  have b1 : (s * 48271 + 41) % 2147483647 < 2147483647 := by omega
  by_cases hlt : t < n
  · obtain ⟨T, rfl⟩ := Int.eq_ofNat_of_zero_le ht0
    have hlt' : T < n := by omega
    obtain ⟨b, off, x, rfl, hc, hx⟩ := hR.atB hlt'
    have hbp := HA.out (by omega) b off rfl
    have hxb := HC.out.2.2 x (List.mem_of_getElem? hx.out)
    have hc' : (w.setCell ⟨p, 2, none⟩ (.int .i64 ((s * 48271 + 41) % 2147483647))).cell? ⟨b, off + T, none⟩ = some (.int .u8 (x : Int)) :=
      (World.cell?_setCell_other w _ _ _ (by simp <;> omega)).trans hc
    have hc2 : ∀ k u, (((w.setCell ⟨p, 2, none⟩ (.int .i64 ((s * 48271 + 41) % 2147483647))).drewN k).setCell ⟨p, 1, none⟩ u).cell? ⟨b, off + T, none⟩ = some (.int .u8 (x : Int)) :=
      fun k u => (World.cell?_setCell_other _ _ _ _ (by simp <;> omega)).trans hc'
    have hi : (T : Int) < (n : Int) := by omega
    have hi1 : (T : Int) + 1 ≤ (n : Int) := by omega
    have E := Lib.hid (src_end hblk (t' := (T : Int) + 1) (by omega) hi1 b0 b1 HC.out HA.out)
    clear e0 hblk hR
    by_cases h9 : m ≤ 256 ∧ ((T : Int) + 1) % 2 = 0
    · obtain ⟨h91, h92⟩ := h9
      have h93 : (((T : Int) + 1) % 2 == 0) = true := by simpa using h92
      clear h92
      go_enter Tryz.func19, Tryz.ntmps19
      go_wp2_with fail
      go_quiet (fail)
      go_wp2_with fail
      go_quiet (fail)
      go_wp2_with fail
      go_quiet (fail)
      go_wp2
      go_ret
      exact ⟨⟨_, rfl, Int.emod_nonneg _ (by omega), Int.emod_lt_of_pos _ (by omega)⟩, E.out _ _⟩
    · by_cases h91 : m ≤ 256
      · have h93 : (((T : Int) + 1) % 2 == 0) = false := by simp; omega
        clear h9
        go_enter Tryz.func19, Tryz.ntmps19
        go_wp2_with fail
        go_quiet (fail)
        go_wp2_with fail
        go_quiet (fail)
        go_wp2
        go_ret
        exact ⟨⟨_, rfl, Int.emod_nonneg _ (by omega), Int.emod_lt_of_pos _ (by omega)⟩, E.out _ 0⟩
      · clear h9
        go_enter Tryz.func19, Tryz.ntmps19
        go_wp2_with fail
        go_quiet (fail)
        go_wp2_with fail
        go_quiet (fail)
        go_wp2
        go_ret
        exact ⟨⟨_, rfl, Int.emod_nonneg _ (by omega), Int.emod_lt_of_pos _ (by omega)⟩, E.out _ 0⟩
  · have E := Lib.hid (src_end0 hblk ht0 ht1 b0 b1 HC.out HA.out)
    have hd : decide (t < (n : Int)) = false := by simpa using hlt
    clear e0 hblk hR
    go_enter Tryz.func19, Tryz.ntmps19
    go_wp2_with fail
    go_quiet (fail)
    go_wp2
    go_ret
    exact ⟨⟨_, rfl, Int.emod_nonneg _ (by omega), Int.emod_lt_of_pos _ (by omega)⟩, E.out _⟩

/-- A number drawn below m. -/
def Drawn (m r : Int) : Prop := 0 ≤ r ∧ (1 < m → r < m) ∧ (m ≤ 1 → r = 0)
theorem l01Next_any (p : Nat) (m : Int) (w : World) (h : SrcOk w p) (hm2 : m ≤ 1000000000000) :
    Calls Tryz.prog 19 #[.pointer (some ⟨p, 0, none⟩), .int .i64 m] w fun e w' => ∃ r : Int, e = .returned (.int .i64 r) ∧ Drawn m r ∧ SrcOk w' p ∧ w.grownBy w' (some p) := by
  by_cases hm : m ≤ 1
  · refine (l01Next_one p m w hm).mono ?_
    rintro e w' ⟨rfl, rfl⟩
    exact ⟨0, rfl, ⟨by omega, by omega, by omega⟩, h, World.grownBy.refl _ _⟩
  · refine (l01Next_more p m w h (by omega) hm2).mono ?_
    rintro e w' ⟨⟨r, rfl, h0, h1⟩, hs, hg⟩
    exact ⟨r, rfl, ⟨h0, fun _ => h1, by omega⟩, hs, hg⟩

theorem l01Pick_any (p : Nat) (a : Option Addr) (n c : Nat) (xs : List Int) (w : World) (h : SrcOk w p) (hR : Row w 1 a n (ints xs)) (hn0 : 0 < n) (hn : n ≤ 1000) (hap : ∀ b off, a = some ⟨b, off, none⟩ → b ≠ p) :
    Calls Tryz.prog 20 #[.pointer (some ⟨p, 0, none⟩), .slice a n c] w fun e w' => ∃ r : Int, e = .returned (.int .i64 r) ∧ r ∈ xs ∧ SrcOk w' p ∧ w.grownBy w' (some p) := by
  have HA := Lib.hid hap; clear hap
  go_enter Tryz.func20, Tryz.ntmps20
  go_wp2_with fail
  go_at_call 19
  refine (l01Next_any _ _ _ h (by omega)).mono ?_
  rintro e w1 ⟨r, rfl, ⟨hr0, hr1, hr2⟩, hs, hg⟩
  have hrn : r < n := by by_cases h1 : (1 : Int) < n <;> omega
  obtain ⟨R, rfl⟩ := Int.eq_ofNat_of_zero_le hr0
  clear hr1 hr2
  obtain ⟨b, off, x, rfl, hc, hx⟩ := (hR.apart (by omega) hg (fun b off e h' => by injection h' with h'; exact HA.out b off e h'.symm)).at_ (show R < n by omega)
  go_wp2
  go_ret
  exact ⟨x, rfl, List.mem_of_getElem? hx.out, hs, hg⟩

end Go.Proofs.YtaimckepaldocaaGreatDoor
