/- Inverting bits, by both programs. -/
import Derived.Test.YtmljcbfpennjkaaLib
import Derived.Test.YtmljcbfpennjkaaRise
namespace Go.Proofs.Ytmljcbfpennjkaa
open Go.RowKit
set_option maxRecDepth 100000
set_option linter.unusedVariables false

def flip1 (xs : List Int) (p : Int) : List Int := xs.set p.toNat (1 - xs.getD p.toNat 0)
def damage (xs ps : List Int) : List Int := ps.foldl flip1 xs
theorem flip1_len (xs : List Int) (p : Int) : (flip1 xs p).length = xs.length := by simp [flip1]
theorem damage_len : ∀ (ps xs : List Int), (damage xs ps).length = xs.length
  | [], _ => rfl
  | p :: t, xs => by rw [damage, List.foldl_cons]; exact (damage_len t (flip1 xs p)).trans (flip1_len xs p)
/-- Small values stay small. -/
def Small (xs : List Int) : Prop := ∀ x ∈ xs, 0 ≤ x ∧ x ≤ 1
theorem flip1_small {xs : List Int} (p : Int) (h : Small xs) : Small (flip1 xs p) := by
  intro x hx
  rcases List.mem_or_eq_of_mem_set hx with h1 | h1
  · exact h x h1
  · subst h1
    rcases hg : xs[p.toNat]? with _ | y
    · simp [List.getD, hg]
    · have := h y (List.mem_of_getElem? hg)
      simp [List.getD, hg]; omega

def DmInv (xs ps : List Int) (k : Nat) (ys : List Int) : Prop := damage ys (ps.drop k) = damage xs ps ∧ ys.length = xs.length ∧ Small ys
theorem DmInv.start {xs : List Int} (ps : List Int) (h : Small xs) : DmInv xs ps 0 xs := ⟨rfl, rfl, h⟩
theorem DmInv.step {xs ps ys : List Int} {k q : Nat} {x : Int} (h : DmInv xs ps k ys) (hp : ps[k]? = some (q : Int)) (hx : ys[q]? = some x) : DmInv xs ps (k + 1) (ys.set q (1 - x)) := by
  have e : ys.set q (1 - x) = flip1 ys q := by simp [flip1, List.getD, hx]
  rw [e]
  refine ⟨?_, by rw [flip1_len]; exact h.2.1, flip1_small _ h.2.2⟩
  rw [← h.1, drop_at hp]; rfl
theorem DmInv.done {xs ps ys : List Int} {k n : Nat} (h : DmInv xs ps k ys) (hl : ps.length = n) (hk : ¬ k < n) : damage xs ps = ys := by
  rw [← h.1, List.drop_of_length_le (by omega)]; rfl

/-- What a list that rises holds. -/
theorem rises_get {n : Int} : ∀ {xs : List Int} {p : Option Int} {k : Nat} {x : Int}, rises n p xs = true → xs[k]? = some x → 0 ≤ x ∧ x < n
  | [], _, _, _, _, hx => by simp at hx
  | y :: t, p, k, x, h, hx => by
    simp only [rises, Bool.and_eq_true, decide_eq_true_eq] at h
    cases k with
    | zero => simp at hx; subst hx; exact ⟨h.1.1.1, h.1.1.2⟩
    | succ k => exact rises_get h.2 (by simpa using hx)

theorem iset' {ys : List Int} {q : Nat} {x : Int} : (ints ys).set q (.int .i64 x) = ints (ys.set q x) := by simp [ints, List.map_set]

theorem damaged_any (a b : Option Addr) (n m c d : Nat) (xs ps : List Int) (w : World) (h : Row w 1 a n (ints xs)) (hp : Row w 1 b m (ints ps)) (hn : n ≤ 1048576) (hm : m ≤ 1048576) (hs : Small xs) (hr : rises n none ps = true) :
    Calls Try.prog 67 #[.slice a n c, .slice b m d] w fun e w' => ∃ a' c', e = .returned (.slice a' n c') ∧ Own w' w.heap.size w'.heap.size 2 1 a' n c' (ints (damage xs ps)) ∧ Below w.heap.size w w' := by
  have hxl := h.len
  go_enter Try.func67, Try.ntmps67
  go_wp2_with fail
  go_at_call 83
  refine (clone_any _ _ _ _ _ h hn).mono ?_
  rintro e w1 ⟨a1, c1, rfl, hown1, hbel1⟩
  have hsz := hbel1.size
  go_wp2
  go_loopw [12] (fun i wr => ∃ (k : Nat) (ys : List Int), k ≤ m ∧ i = .int .i64 k ∧ Own wr w.heap.size w1.heap.size 2 1 a1 n c1 (ints ys) ∧ Hid (DmInv xs ps k ys) ∧ Below w.heap.size w wr ∧ w1.heap.size ≤ wr.heap.size) (fun i _ => m - (intOf i).toNat)
  case atStart => exact ⟨0, xs, Nat.zero_le _, rfl, hown1, DmInv.start _ hs, hbel1, Nat.le_refl _⟩
  case round =>
    obtain ⟨k, ys, hk, rfl, hown, hinv, hbel, hsz2⟩ := hrel
    by_cases hlt : k < m
    · obtain ⟨b1, off1, p, rfl, hc1, hx1⟩ := (hp.below hbel (Nat.le_refl _)).at_ hlt
      obtain ⟨hp0, hpn⟩ := rises_get hr hx1.out
      obtain ⟨q, rfl⟩ := Int.eq_ofNat_of_zero_le hp0
      have hqn : q < n := by omega
      obtain ⟨g, rfl, hg0, hg1, hg2⟩ := hown.head (by omega)
      have hyl := hown.row.len
      obtain ⟨b2, off2, x, e2, hc2, hx2⟩ := hown.row.at_ hqn
      injection e2 with e2
      injection e2 with e2 e3 _
      subst e2; subst e3
      rw [Nat.zero_add] at hc2
      have hxs := hinv.out.2.2 x (List.mem_of_getElem? hx2.out)
      have hfz := hown.frozenAt q
      have hst := hown.stored q (.int .i64 (1 - x))
      rw [iset'] at hst
      have H := Lib.hid hst; clear hst hown
      go_wp2
      go_roundw
      case rel => exact ⟨k + 1, ys.set q (1 - x), by omega, by go_num, H.out.1, hinv.out.step hx1.out hx2.out, hbel.setCell hg0 _, by simp [World.setCell]; omega⟩
      case measure => simp [intOf]; omega
    · go_wp2
      go_ret
      rw [hinv.out.done hp.len hlt]
      exact ⟨_, _, rfl, hown.mono (Nat.le_refl _) hsz2, hbel⟩

theorem l25Damage_any (a b : Option Addr) (n m c d : Nat) (xs ps : List Int) (w : World) (h : Row w 1 a n (ints xs)) (hp : Row w 1 b m (ints ps)) (hn : n ≤ 1048576) (hm : m ≤ 1048576) (hs : Small xs) (hr : rises n none ps = true) :
    Calls Try.prog 69 #[.slice a n c, .slice b m d] w fun e w' => ∃ a' c', e = .returned (.slice a' n c') ∧ Own w' w.heap.size w'.heap.size 2 1 a' n c' (ints (damage xs ps)) ∧ Below w.heap.size w w' := by
  have hxl := h.len
  go_enter Try.func69, Try.ntmps69
  go_wp2_with fail
  go_at_call 77
  refine (l01Own_any _ _ _ _ _ h hn).mono ?_
  rintro e w1 ⟨a1, c1, rfl, hown1, hbel1⟩
  have hsz := hbel1.size
  go_wp2
  go_loopw [6] (fun i wr => ∃ (k : Nat) (ys : List Int), k ≤ m ∧ i = .int .i64 k ∧ Own wr w.heap.size w1.heap.size 2 1 a1 n c1 (ints ys) ∧ Hid (DmInv xs ps k ys) ∧ Below w.heap.size w wr ∧ w1.heap.size ≤ wr.heap.size) (fun i _ => m - (intOf i).toNat)
  case atStart => exact ⟨0, xs, Nat.zero_le _, rfl, hown1, DmInv.start _ hs, hbel1, Nat.le_refl _⟩
  case round =>
    obtain ⟨k, ys, hk, rfl, hown, hinv, hbel, hsz2⟩ := hrel
    by_cases hlt : k < m
    · obtain ⟨b1, off1, p, rfl, hc1, hx1⟩ := (hp.below hbel (Nat.le_refl _)).at_ hlt
      obtain ⟨hp0, hpn⟩ := rises_get hr hx1.out
      obtain ⟨q, rfl⟩ := Int.eq_ofNat_of_zero_le hp0
      have hqn : q < n := by omega
      obtain ⟨g, rfl, hg0, hg1, hg2⟩ := hown.head (by omega)
      have hyl := hown.row.len
      obtain ⟨b2, off2, x, e2, hc2, hx2⟩ := hown.row.at_ hqn
      injection e2 with e2
      injection e2 with e2 e3 _
      subst e2; subst e3
      rw [Nat.zero_add] at hc2
      have hxs := hinv.out.2.2 x (List.mem_of_getElem? hx2.out)
      have hfz := hown.frozenAt q
      have hst := hown.stored q (.int .i64 (1 - x))
      rw [iset'] at hst
      have H := Lib.hid hst; clear hst hown
      have hlt2 : (k : Int) < (m : Int) := by omega
      go_wp2_with fail
      go_region
      all_goals
        go_wp2
        go_roundw
        case rel => exact ⟨k + 1, ys.set q (1 - x), by omega, by go_num, H.out.1.drew, hinv.out.step hx1.out hx2.out, (hbel.setCell (p := ⟨g, q, none⟩) hg0 _).drew, by simp [World.setCell, World.drew]; omega⟩
        case measure => simp [intOf]; omega
    · go_wp2
      go_ret
      rw [hinv.out.done hp.len hlt]
      exact ⟨_, _, rfl, hown.mono (Nat.le_refl _) hsz2, hbel⟩

def damageBits (xs ps : List Int) : List Int × Int := if !(listOk 1200 0 1 xs) then ([], 1) else if !(rises xs.length none ps) then ([], 2) else (damage xs ps, 0)
theorem damageBits_no {xs ps : List Int} (h : listOk 1200 0 1 xs = false) : damageBits xs ps = ([], 1) := by simp [damageBits, h]
theorem damageBits_out {xs ps : List Int} {n : Nat} (h : listOk 1200 0 1 xs = true) (hl : xs.length = n) (h2 : rises n none ps = false) : damageBits xs ps = ([], 2) := by subst hl; simp [damageBits, h, h2]
theorem damageBits_yes {xs ps : List Int} {n : Nat} (h : listOk 1200 0 1 xs = true) (hl : xs.length = n) (h2 : rises n none ps = true) : damageBits xs ps = (damage xs ps, 0) := by subst hl; simp [damageBits, h, h2]
theorem damageBits_len (xs ps : List Int) : (damageBits xs ps).1.length ≤ 1200 := by
  unfold damageBits
  split
  · simp
  · split
    · simp
    · rename_i h _
      simp at h
      have := listOk_le h rfl
      simp only [damage_len]; omega
theorem Small.of {most : Int} {xs : List Int} (h : listOk most 0 1 xs = true) : Small xs := by
  intro x hx
  obtain ⟨k, hk⟩ := List.mem_iff_getElem?.1 hx
  exact listOk_get h hk

theorem damageBits_impl (a b : Option Addr) (n m c d : Nat) (xs ps : List Int) (w : World) (h : Row w 1 a n (ints xs)) (hp : Row w 1 b m (ints ps)) (hn : n ≤ 1048576) (hm : m ≤ 1048576) :
    Calls Try.prog 41 #[.slice a n c, .slice b m d] w fun e w' => ∃ a n cp, e = .returned (.tuple #[.slice a n cp, .int .i64 (damageBits xs ps).2]) ∧ Own w' w.heap.size w'.heap.size 2 1 a n cp (ints (damageBits xs ps).1) ∧ Below w.heap.size w w' := by
  cases hok : listOk 1200 0 1 xs
  · rw [damageBits_no hok]
    go_enter Try.func41, Try.ntmps41
    go_wp2_with (go_at_call 48; refine (isBits_any _ _ _ _ _ _ h hn).mono ?_; rintro e w' ⟨rfl, rfl⟩)
    go_ret2
    exact ⟨_, _, _, rfl, Own.nil_ _ _ _ _ _, Below.refl _ _⟩
  cases hr : rises n none ps
  · rw [damageBits_out hok h.len hr]
    go_enter Try.func41, Try.ntmps41
    go_wp2_with (first | (go_at_call 48; refine (isBits_any _ _ _ _ _ _ h hn).mono ?_; rintro e w' ⟨rfl, rfl⟩) | (go_at_call 66; refine (length_any _ _ _ _ (by omega)).mono ?_; rintro e w' ⟨rfl, rfl⟩) | (go_at_call 65; refine (isRising_any _ _ _ _ _ _ hp hm).mono ?_; rintro e w' ⟨rfl, rfl⟩))
    go_ret2
    exact ⟨_, _, _, rfl, Own.nil_ _ _ _ _ _, Below.refl _ _⟩
  · rw [damageBits_yes hok h.len hr]
    go_enter Try.func41, Try.ntmps41
    go_wp2_with (first | (go_at_call 48; refine (isBits_any _ _ _ _ _ _ h hn).mono ?_; rintro e w' ⟨rfl, rfl⟩) | (go_at_call 66; refine (length_any _ _ _ _ (by omega)).mono ?_; rintro e w' ⟨rfl, rfl⟩) | (go_at_call 65; refine (isRising_any _ _ _ _ _ _ hp hm).mono ?_; rintro e w' ⟨rfl, rfl⟩) | (go_at_call 67; refine (damaged_any _ _ _ _ _ _ _ _ _ h hp hn hm (Small.of hok) hr).mono ?_; rintro e w' ⟨a1, c1, rfl, hown, hbel⟩))
    go_ret2
    exact ⟨_, _, _, rfl, hown, hbel⟩

theorem damageBits_spec (a b : Option Addr) (n m c d : Nat) (xs ps : List Int) (w : World) (h : Row w 1 a n (ints xs)) (hp : Row w 1 b m (ints ps)) (hn : n ≤ 1048576) (hm : m ≤ 1048576) :
    Calls Try.prog 42 #[.slice a n c, .slice b m d] w fun e w' => ∃ a n cp, e = .returned (.tuple #[.slice a n cp, .int .i64 (damageBits xs ps).2]) ∧ Own w' w.heap.size w'.heap.size 2 1 a n cp (ints (damageBits xs ps).1) ∧ Below w.heap.size w w' := by
  cases hok : listOk 1200 0 1 xs
  · rw [damageBits_no hok]
    go_enter Try.func42, Try.ntmps42
    go_wp2_with (go_at_call 46; refine (l25Bits_any _ _ _ _ _ h hn).mono ?_; rintro e w' ⟨rfl, rfl⟩)
    go_ret2
    exact ⟨_, _, _, rfl, Own.nil_ _ _ _ _ _, Below.refl _ _⟩
  cases hr : rises n none ps
  · rw [damageBits_out hok h.len hr]
    go_enter Try.func42, Try.ntmps42
    go_wp2_with (first | (go_at_call 46; refine (l25Bits_any _ _ _ _ _ h hn).mono ?_; rintro e w' ⟨rfl, rfl⟩) | (go_at_call 68; refine (l01Rises_any _ _ _ _ _ _ hp hm).mono ?_; rintro e w' ⟨rfl, hbel1⟩))
    go_ret2
    exact ⟨_, _, _, rfl, Own.nil_ _ _ _ _ _, hbel1⟩
  · rw [damageBits_yes hok h.len hr]
    go_enter Try.func42, Try.ntmps42
    go_wp2_with (first | (go_at_call 46; refine (l25Bits_any _ _ _ _ _ h hn).mono ?_; rintro e w' ⟨rfl, rfl⟩) | (go_at_call 68; refine (l01Rises_any _ _ _ _ _ _ hp hm).mono ?_; rintro e w' ⟨rfl, hbel1⟩) | (go_at_call 69; refine (l25Damage_any _ _ _ _ _ _ _ _ _ (h.below hbel1 (Nat.le_refl _)) (hp.below hbel1 (Nat.le_refl _)) hn hm (Small.of hok) hr).mono ?_; rintro e w' ⟨a1, c1, rfl, hown, hbel⟩))
    go_ret2
    have := hbel1.size
    exact ⟨_, _, _, rfl, hown.mono this (Nat.le_refl _), hbel1.trans (hbel.mono this)⟩
end Go.Proofs.Ytmljcbfpennjkaa
