/- The package-level variables that the law's library calls read, carried; decimal numerals as the program writes and reads them. -/
import Derived.Test.YtaimckepaldocaaGreatDoorShelf
import Derived.Test.YtaimckepaldocaaGreatDoorTxt
import Derived.Test.YtaimckepaldocaaGreatDoorLike
import Derived.Lib.AppendIntMem
import Derived.Lib.SmallJoins
import Derived.Deep.Cut
import Derived.Handy
namespace Go.Proofs.YtaimckepaldocaaGreatDoor
open Go.RowKit
set_option maxRecDepth 100000
set_option linter.unusedVariables false
open Go.Lib (decDigits itoa)
set_option linter.unusedSimpArgs false
set_option linter.unusedVariables false

theorem var_keep {P : Program} {w w' : World} {n : String} {cs : Array Value} (h : w.var? P n = some cs) (hb : Below w.heap.size w w') : w'.var? P n = some cs := by
  unfold World.var? at h ⊢
  cases hg : P.globalNamed n with
  | none => rw [hg] at h; simp at h
  | some g =>
    rw [hg] at h
    simp only [Option.bind_some] at h ⊢
    have hlt : g < w.heap.size := by
      rcases Nat.lt_or_ge g w.heap.size with h1 | h1
      · exact h1
      · have : w.heap[g]? = none := by simp; omega
        rw [this] at h; simp at h
    rw [hb.block g hlt]
    exact h

/-- What the calls of the library read: the table of powers, a number, two errors. -/
structure GV (w : World) : Prop where
  tab : Go.Lib.TabIs Tryz.prog w "internal/strconv.uint64pow10" .u64 Go.Lib.pow10Tab
  ml : ∃ m, w.cell? ⟨0, 0, none⟩ = some (.int .i64 m)
  es : ∃ ev, w.cell? ⟨4, 0, none⟩ = some ev ∧ (ev = .nilIface ∨ ∃ te pe, ev = .iface te pe)
  er : ∃ ev, w.cell? ⟨5, 0, none⟩ = some ev ∧ (ev = .nilIface ∨ ∃ te pe, ev = .iface te pe)
section
variable {w w' : World}
theorem GV.below (h : GV w) (hb : Below w.heap.size w w') : GV w' := by
  obtain ⟨h1, ⟨m, h2⟩, ⟨e1, h3, h3'⟩, e2, h4, h4'⟩ := h
  exact ⟨var_keep h1 hb, ⟨m, Below.cellSelf hb h2⟩, ⟨e1, Below.cellSelf hb h3, h3'⟩, e2, Below.cellSelf hb h4, h4'⟩
theorem GV.alloc (h : GV w) (o : Obj) : GV (w.alloc o) := h.below ((Below.refl _ _).alloc (Nat.le_refl _) o)
theorem GV.drew (h : GV w) : GV w.drew := h.below (Below.refl _ _).drew
theorem GV.drewN (h : GV w) (k : Nat) : GV (w.drewN k) := ⟨h.tab, h.ml, h.es, h.er⟩
/-- What a call wrote lies in blocks of its own or in one block that is no variable's. -/
theorem GV.grown {p : Nat} (h : GV w) (hg : w.grownBy w' (some p)) (hp : ∀ n g, Tryz.prog.globalNamed n = some g → g ≠ p) (h0 : 5 < p) : GV w' := by
  obtain ⟨h1, ⟨m, h2⟩, ⟨e1, h3, h3'⟩, e2, h4, h4'⟩ := h
  have key : ∀ b v, b ≤ 5 → w.cell? ⟨b, 0, none⟩ = some v → w'.cell? ⟨b, 0, none⟩ = some v := fun b v hb hc => by
    have hlt := World.block_lt_of_cell? w _ hc
    rw [World.cell?] at hc ⊢
    rw [hg.block b hlt (fun e => by injection e with e; omega)]
    exact hc
  refine ⟨?_, ⟨m, key 0 _ (by omega) h2⟩, ⟨e1, key 4 _ (by omega) h3, h3'⟩, e2, key 5 _ (by omega) h4, h4'⟩
  unfold Go.Lib.TabIs at h1 ⊢
  unfold World.var? at h1 ⊢
  cases hn : Tryz.prog.globalNamed "internal/strconv.uint64pow10" with
  | none => rw [hn] at h1; simp at h1
  | some g =>
    rw [hn] at h1
    simp only [Option.bind_some] at h1 ⊢
    have hlt : g < w.heap.size := by
      rcases Nat.lt_or_ge g w.heap.size with h2 | h2
      · exact h2
      · have : w.heap[g]? = none := by simp; omega
        rw [this] at h1; simp at h1
    rw [hg.block g hlt (fun e => hp _ _ hn (by injection e))]
    exact h1
end

theorem decimal_any (n : Int) (w : World) (h0 : -9223372036854775808 ≤ n) (h1 : n ≤ 9223372036854775807) (G : GV w) :
    Calls Tryz.prog 41 #[.int .i64 n] w fun e w' => e = .returned (.string (str (itoa n))) ∧ Below w.heap.size w w' := by
  go_enter Tryz.func41, Tryz.ntmps41
  go_wp2_with fail
  go_at_call 62
  refine (strconv_FormatInt_10 n h0 h1 _ G.tab).mono ?_
  rintro e w' ⟨rfl, k, os, rfl⟩
  go_wp2
  go_ret
  exact ⟨rfl, Go.Lib.below_grow _ _ (Nat.le_refl _) _ _⟩

theorem parse_bd {l : Txt} {v : Int} (h : Go.Lib.parseIntB 64 l = .ok v) : -9223372036854775808 ≤ v ∧ v ≤ 9223372036854775807 := by
  unfold Go.Lib.parseIntB at h
  split at h
  · cases h
  · dsimp only at h
    split at h
    · cases h
    · cases h
    · split at h
      · cases h
      · split at h
        · cases h
        · injection h with h
          split at h <;> simp_all <;> omega

/-- What reading a numeral gives: bounds a and b. -/
def NumOf (a b : Int) (s : Txt) (n : Int) (ok : Bool) : Prop := (ok = true → s = itoa n ∧ a ≤ n ∧ n ≤ b) ∧ (ok = false → ∀ m, a ≤ m → m ≤ b → s ≠ itoa m)

theorem readNumber_any (s : ByteArray) (w : World) (hs : s.size ≤ 1048576) (G : GV w) :
    Calls Tryz.prog 46 #[.string s] w fun e w' => ∃ n ok, e = .returned (.tuple #[.int .i64 n, .bool ok]) ∧ NumOf (-9223372036854775808) 9223372036854775807 s.data.toList n ok ∧ -9223372036854775808 ≤ n ∧ n ≤ 9223372036854775807 ∧ Below w.heap.size w w' := by
  obtain ⟨e1, h3, h3'⟩ := G.es
  obtain ⟨e2, h4, h4'⟩ := G.er
  cases hp : Go.Lib.parseIntB 64 s.data.toList with
  | ok v =>
    have hv := parse_bd hp
    go_enter Tryz.func46, Tryz.ntmps46
    go_wp2_with fail
    go_at_call 68
    refine (strconv_ParseInt_10_at64_ok s (by omega) v hp _).mono ?_
    rintro e w1 ⟨rfl, hw⟩
    have hb : Below w.heap.size w w1 := by
      rcases hw with rfl | ⟨t, rfl⟩
      · exact Below.refl _ _
      · exact Go.Joins.below_bytesWorld _ _ _ _ (Nat.le_refl _)
    clear hw
    go_wp2_with fail
    go_at_call 41
    refine (decimal_any _ _ hv.1 hv.2 (G.below hb)).mono ?_
    rintro e w2 ⟨rfl, hb2⟩
    by_cases heq : itoa v = s.data.toList
    · have hes : str (itoa v) = s := by rw [heq, str_data]
      rw [hes]
      go_wp2
      go_returns
      exact ⟨v, true, rfl, ⟨fun _ => ⟨heq.symm, hv⟩, fun h => (by cases h)⟩, hv.1, hv.2, hb.trans (hb2.mono hb.size)⟩
    · have hne : str (itoa v) ≠ s := fun e => heq (by rw [← e, data_str])
      have hnd : ((str (itoa v)).toList == s.toList) = false := by rw [beq_eq_false_iff_ne]; intro e; rw [toL, toL] at e; exact heq (by rw [← data_str (itoa v)]; exact e)
      go_wp2
      go_returns
      refine ⟨v, false, rfl, ⟨fun h => (by cases h), fun _ m m0 m1 e => ?_⟩, hv.1, hv.2, hb.trans (hb2.mono hb.size)⟩
      rw [e, parse_itoa m m0 m1] at hp
      injection hp with hp
      exact heq (by rw [e, hp])
  | range =>
    have hsat : -9223372036854775808 ≤ Go.Lib.intSat 64 s.data.toList ∧ Go.Lib.intSat 64 s.data.toList ≤ 9223372036854775807 := by
      unfold Go.Lib.intSat
      split <;> simp
    go_enter Tryz.func46, Tryz.ntmps46
    go_wp2_with fail
    go_at_call 68
    refine (strconv_ParseInt_10_at64_range s (by omega) hp e2 _ h4 h4').mono ?_
    rintro e w1 ⟨N, rfl, -, -, hb⟩
    go_wp2
    go_returns
    exact ⟨_, false, rfl, ⟨fun h => (by cases h), fun _ m m0 m1 e => by rw [e, parse_itoa m m0 m1] at hp; cases hp⟩, hsat.1, hsat.2, hb⟩
  | _ =>
    go_enter Tryz.func46, Tryz.ntmps46
    go_wp2_with fail
    go_at_call 68
    refine (strconv_ParseInt_10_at64_syntax s (by omega) hp e1 _ h3 h3').mono ?_
    rintro e w1 ⟨N, rfl, -, -, hb⟩
    go_wp2
    go_returns
    exact ⟨_, false, rfl, ⟨fun h => (by cases h), fun _ m m0 m1 e => by rw [e, parse_itoa m m0 m1] at hp; cases hp⟩, by omega, by omega, hb⟩
end Go.Proofs.YtaimckepaldocaaGreatDoor
