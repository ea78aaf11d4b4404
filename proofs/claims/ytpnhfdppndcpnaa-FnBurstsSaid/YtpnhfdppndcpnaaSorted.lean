/- The reference's sort of a list of integers: the list in ascending order. -/
import Derived.Test.YtpnhfdppndcpnaaIterI
import Derived.Deep.QuietTactic
import Derived.BigQuiet
import Derived.Deep.RegionHeld3
import Derived.Outline
namespace Go.Proofs.Ytpnhfdppndcpnaa
open Go.RowKit
set_option maxRecDepth 100000

theorem sorted_eq : ∀ {xs ys : List Int}, xs.Perm ys → xs.Pairwise (· ≤ ·) → ys.Pairwise (· ≤ ·) → xs = ys
  | [], ys, h, _, _ => by rw [List.nil_perm.1 h]
  | x :: xs, [], h, _, _ => by have := List.perm_nil.1 h; simp at this
  | x :: xs, y :: ys, h, hx, hy => by
    have h1 := List.pairwise_cons.1 hx
    have h2 := List.pairwise_cons.1 hy
    have hxy : x = y := by
      have a : x ∈ y :: ys := h.mem_iff.1 (by simp)
      have b : y ∈ x :: xs := h.mem_iff.2 (by simp)
      rcases List.mem_cons.1 a with a | a
      · exact a
      · rcases List.mem_cons.1 b with b | b
        · exact b.symm
        · have := h1.1 y b; have := h2.1 x a; omega
    subst hxy
    rw [sorted_eq (List.perm_cons x |>.1 h) h1.2 h2.2]
theorem sortI_perm (zs : List Int) : (sortI zs).Perm zs := List.mergeSort_perm _ _
theorem sortI_sorted (zs : List Int) : (sortI zs).Pairwise (· ≤ ·) := by
  have h := List.pairwise_mergeSort (le := fun x y : Int => decide (x ≤ y)) (by intro a b c; simp; omega) (by intro a b; simp; omega) zs
  exact h.imp (by simp)
theorem sortI_eq {zs ys : List Int} (h : ys.Perm zs) (hs : ys.Pairwise (· ≤ ·)) : ys = sortI zs := sorted_eq (h.trans (sortI_perm zs).symm) hs (sortI_sorted zs)
theorem sortI_length (zs : List Int) : (sortI zs).length = zs.length := by simp [sortI]

/-- The first k are in their order. -/
def SInv' (zs : List Int) (k : Nat) (ys : List Int) : Prop := ys.Perm (zs.take k) ∧ ys.Pairwise (· ≤ ·)
theorem SInv'.step {zs ys : List Int} {k A : Nat} {x : Int} (h : SInv' zs k ys) (hx : zs[k]? = some x) (hlo : ∀ y ∈ ys.take A, y ≤ x) (hhi : ∀ y ∈ ys.drop A, x ≤ y) : SInv' zs (k + 1) (ys.take A ++ [x] ++ ys.drop A) := by
  refine ⟨?_, ?_⟩
  · rw [take_snoc hx]
    have h1 : (ys.take A ++ [x] ++ ys.drop A).Perm (ys.take A ++ ys.drop A ++ [x]) := by
      rw [List.append_assoc, List.append_assoc]
      exact List.Perm.append_left _ List.perm_append_comm
    rw [List.take_append_drop] at h1
    exact h1.trans (List.Perm.append_right _ h.1)
  · have hp := h.2
    rw [← List.take_append_drop A ys, List.pairwise_append] at hp
    rw [List.append_assoc, List.pairwise_append]
    refine ⟨hp.1, ?_, ?_⟩
    · rw [List.singleton_append, List.pairwise_cons]
      exact ⟨hhi, hp.2.1⟩
    · intro a ha b hb
      rcases List.mem_append.1 hb with hb | hb
      · simp at hb; subst hb; exact hlo a ha
      · exact hp.2.2 a ha b hb

section
variable {P : Program} (w : World)
theorem step_app0 {ops : Array Oper} {o : Oper} {a : Act} {K : Act → World → Prop} {Q : Exit → Act → World → Prop} {F : Prop} (hgd : o.guard = none) (x y : Operand) (t : TypeId)
    (ho : o.op = .call { callee := .builtin .append, args := #[x, y], argTypes := #[t, t] })
    {E : TypeId} {z : Value} {s bytes : Nat} (ht : P.underlying t = some (.slice E)) (hinfo : (P.info? E).map (fun i => (i.zero, i.size, i.bytes)) = some (some z, s, bytes)) (hzs : z.cells.size = s) (hsz : 0 < s)
    {lo hi : Nat} {A : Option Addr} {n c : Nat} {vs : List Value} (hx : a.eval x = .slice A n c) (hown : Own w lo hi E s A n c vs) (hhi : hi ≤ w.heap.size)
    {A' : Option Addr} {m c' : Nat} {news : List Value} (hy : a.eval y = .slice A' m c') (hrow : Row w s A' m news) (h1 : ∀ u ∈ news, u.oneCell' = true)
    (hlen : n + m ≤ maxLen) (hbytes : (n + m) * bytes ≤ 140737488355328) (hlo : lo ≤ w.heap.size)
    (h : ∀ A2 c2 w', Own w' lo w'.heap.size E s A2 (n + m) c2 (vs ++ news) → Below lo w w' → w.grownBy w' (Value.slice A n c).ownBlock → K (a.put o.dst (.slice A2 (n + m) c2)) w') :
    if Region.wanted o (yielded ops a.tmps) = true then Oper.wp P o a w K Q else F := by
  have hw : Region.wanted o (yielded ops a.tmps) = true := by simp [Region.wanted, hgd]
  rw [if_pos hw]
  exact wp_app0 w x y t ho ht hinfo hzs hsz hx hown hhi hy hrow h1 hlen hbytes hlo h
end
theorem Own.lit0' (w : World) (E s g : Nat) (hg : g = w.heap.size) : Own (w.alloc (.cells #[] E)) g (g + 1) E s (some ⟨g, 0, none⟩) 0 0 [] := by subst hg; exact Own.lit0 w E s
theorem Row.takeI {w : World} {a : Option Addr} {n k : Nat} {xs : List Int} (h : Row w 1 a n (ints xs)) (hk : k ≤ n) : Row w 1 a k (ints (xs.take k)) := by
  refine ⟨by have := h.len; simp [ints]; omega, fun h0 => ?_⟩
  obtain ⟨b, off, e, hc⟩ := h.2 (by omega)
  refine ⟨b, off, e, fun j u hu => hc j u ?_⟩
  simp only [ints, List.getElem?_map, List.getElem?_take] at hu ⊢
  split at hu
  · exact hu
  · simp at hu
theorem Row.dropI {w : World} {b off n k : Nat} {xs : List Int} (h : Row w 1 (some ⟨b, off, none⟩) n (ints xs)) (hk : k ≤ n) (a' : Option Addr) (ha : k < n → a' = some ⟨b, off + k, none⟩) : Row w 1 a' (n - k) (ints (xs.drop k)) := by
  have hl := h.len
  refine ⟨by simp [ints]; omega, fun h0 => ?_⟩
  obtain ⟨b', off', e, hc⟩ := h.2 (by omega)
  injection e with e
  injection e with e1 e2 _
  subst e1; subst e2
  refine ⟨b, off + k, ha (by omega), fun j u hu => ?_⟩
  rw [Nat.add_assoc]
  refine hc (k + j) u ?_
  simp only [ints, List.getElem?_map, List.getElem?_drop] at hu ⊢
  exact hu
theorem Own.capBd {w : World} {lo hi E s n c g : Nat} {vs : List Value} (h : Own w lo hi E s (some ⟨g, 0, none⟩) n c vs) : n ≤ c ∧ c ≤ maxLen := by
  rcases h.1.2 with ⟨hv, h0⟩ | ⟨g, cap, cur, hv, _, _, hnc, hcm, _⟩
  · cases hv
  · injection hv with _ h1 h2; subst h2; exact ⟨hnc, hcm⟩
theorem Row.apart1 {w w' : World} {s n g : Nat} {a : Option Addr} {vs : List Value} (h : Row w s a n vs) (hs : 0 < s) (hg : w.grownBy w' (some g)) (hr : 0 < n → ∀ b off, a = some ⟨b, off, none⟩ → b ≠ g) : Row w' s a n vs := by
  rcases Nat.eq_zero_or_pos n with h0 | h0
  · exact ⟨h.1, fun hn => absurd hn (by omega)⟩
  · exact h.apart hs hg fun b off e h' => hr h0 b off e (by injection h' with h'; exact h'.symm)
theorem World.size_drew' (w : World) : w.drew.heap.size = w.heap.size := rfl

set_option maxHeartbeats 6400000 in
theorem l01Sorted_any (a : Option Addr) (n c : Nat) (zs : List Int) (w : World) (h : Row w 1 a n (ints zs)) (hn : n ≤ 2000) :
    Calls Try.prog 24 #[.slice a n c] w fun e w' => ∃ a' c', e = .returned (.slice a' n c') ∧ Own w' w.heap.size w'.heap.size 2 1 a' n c' (ints (sortI zs)) ∧ Below w.heap.size w w' := by
  have hl := h.len
  have HL := Lib.hid hl
  clear hl
  go_enter Try.func24, Try.ntmps24
  go_wp2
  go_loopw [3, 4] (fun o i wr => ∃ (k g cp : Nat) (ys : List Int), k ≤ n ∧ i = .int .i64 k ∧ o = .slice (some ⟨g, 0, none⟩) k cp ∧ k ≤ cp ∧ cp ≤ maxLen ∧ Own wr w.heap.size wr.heap.size 2 1 (some ⟨g, 0, none⟩) k cp (ints ys) ∧ Hid (SInv' zs k ys) ∧ Below w.heap.size w wr) (fun _ i _ => n - (intOf i).toNat)
  case atStart => exact ⟨0, w.heap.size, 0, [], Nat.zero_le _, rfl, by go_num, Nat.le_refl _, by simp [maxLen], (Own.lit0 w 2 1).mono (Nat.le_refl _) (by simp), Lib.hid ⟨by simp, List.Pairwise.nil⟩, (Below.refl _ _).alloc (Nat.le_refl _) _⟩
  case round =>
    obtain ⟨k, g, cp, ys, hk, rfl, rfl, hkc, hcm, hO, hS, hbel⟩ := hrel
    have hyl : ys.length = k := hO.row.len
    have HY := Lib.hid hyl
    by_cases hlt : k < n
    · obtain ⟨b, off, x, hab, hcx, hx⟩ := (h.below hbel (Nat.le_refl _)).at_ hlt
      subst hab
      have hkI : (k : Int) < (n : Int) := by omega
      clear hyl
      go_wp2
      obtain ⟨w1, rfl⟩ : ∃ w1 : World, w1 = wr := ⟨_, rfl⟩
      go_loopw [5] (fun t wi => ∃ A : Nat, A ≤ k ∧ t = .int .i64 A ∧ Hid (∀ y ∈ ys.drop A, x ≤ y) ∧ Below w1.heap.size w1 wi) (fun t _ => (intOf t).toNat)
      case atStart => exact ⟨k, Nat.le_refl _, rfl, Lib.hid (by intro y hy; rw [List.drop_of_length_le (by have := HY.out; omega)] at hy; simp at hy), Below.refl _ _⟩
      case round =>
        obtain ⟨A, hA, rfl, hhi, hbi⟩ := hrel
        have hcx2 := (hbi.cell (p := ⟨b, off + k, none⟩) (World.block_lt_of_cell? w1 _ hcx)).trans hcx
        by_cases hgo : ∃ A' y, A = A' + 1 ∧ ys[A']? = some y ∧ x < y
        · obtain ⟨A', y, rfl, hy, hxy⟩ := hgo
          have hsub : ((A' + 1 : Nat) : Int) - 1 = (A' : Int) := by omega
          have hA0 : (0 : Int) < ((A' + 1 : Nat) : Int) := by omega
          have hA1 : (A' : Int) < (k : Int) := by omega
          have hcy : wr.cell? ⟨g, A', none⟩ = some (.int .i64 y) := by
            have hOi := hO.below hbi (.inr (Nat.le_refl _))
            rw [hOi.cellAt A' (by omega)]
            simp [ints, hy]
          have hnext : Hid (∀ z ∈ ys.drop A', x ≤ z) := by
            intro z hz
            rw [drop_at hy] at hz
            rcases List.mem_cons.1 hz with rfl | hz
            · omega
            · exact hhi.out z hz
          clear hy
          go_wp2_with fail
          go_quiet (fail)
          go_wp2
          go_roundw
          case rel => exact ⟨A', by omega, by go_num, hnext, bdn hbi _⟩
          case measure => simp [intOf] <;> omega
        · have hlo : Hid (∀ y ∈ ys.take A, y ≤ x) := by
            intro y hy
            have hp := hS.out.2
            obtain ⟨j, hj⟩ := List.mem_iff_getElem?.1 hy
            have hjA : j < A := by have := (List.getElem?_eq_some_iff.1 hj).1; rw [List.length_take] at this; omega
            rw [List.getElem?_take_of_lt hjA] at hj
            obtain ⟨A', rfl⟩ : ∃ A', A = A' + 1 := ⟨A - 1, by omega⟩
            obtain ⟨z, hz⟩ : ∃ z, ys[A']? = some z := ⟨_, List.getElem?_eq_getElem (by have := HY.out; omega)⟩
            have hzx : ¬ x < z := fun hlt => hgo ⟨A', z, rfl, hz, hlt⟩
            by_cases hje : j = A'
            · subst hje; rw [hz] at hj; injection hj with hj; omega
            · obtain ⟨h1, h2⟩ := List.getElem?_eq_some_iff.1 hj
              obtain ⟨h3, h4⟩ := List.getElem?_eq_some_iff.1 hz
              have := List.pairwise_iff_getElem.1 hp j A' h1 h3 (by omega)
              omega
          have hstep := Lib.hid (SInv'.step (A := A) hS.out hx.out hlo.out hhi.out)
          have hor : (∃ A' y, A = A' + 1 ∧ ys[A']? = some y ∧ y ≤ x) ∨ A = 0 := by
            rcases Nat.eq_zero_or_pos A with h0 | h0
            · exact .inr h0
            · left
              obtain ⟨A', rfl⟩ : ∃ A', A = A' + 1 := ⟨A - 1, by omega⟩
              obtain ⟨z, hz⟩ : ∃ z, ys[A']? = some z := ⟨_, List.getElem?_eq_getElem (by have := HY.out; omega)⟩
              exact ⟨A', z, rfl, hz, by have : ¬ x < z := fun hlt => hgo ⟨A', z, rfl, hz, hlt⟩; omega⟩
          have hOi := (hO.below hbi (.inr (Nat.le_refl _))).leave
          have RG := hOi.row
          have RA := Lib.hid (RG.takeI hA)
          have hB9 := hbel.trans (hbi.mono hbel.size)
          have HB9 := Lib.hid hB9
          have hwb := hB9.size
          have hAI : (A : Int) ≤ (cp : Int) := by omega
          have hAk : (A : Int) ≤ (k : Int) := by omega
          have hA0 : (0 : Int) ≤ (A : Int) := by omega
          obtain ⟨N, hN⟩ : ∃ N, wr.heap.size = N := ⟨_, rfl⟩
          have hgN : g < N := by have := (hOi.lt g rfl).2.2; omega
          have RDf := Lib.hid (fun (a' : Option Addr) (ha : A < k → a' = some ⟨g, 0 + A, none⟩) => RG.dropI hA a' ha)
          clear RG hO hbel
          by_cases hcpA : cp = A
          · have RD := Lib.hid (RDf.out (some ⟨g, 0, none⟩) (fun h => by omega))
            clear RDf
            rcases hor with ⟨A', y, hAe, hy, hyx⟩ | hAz
            · have hsub : (A : Int) - 1 = (A' : Int) := by omega
              have hA00 : (0 : Int) < (A : Int) := by omega
              have hA02 : 0 < A := by omega
              have hwr : IntKind.i64.wrap ((A : Int) - 1) = (A' : Int) := by rw [IntKind.wrap_i64]; omega
              have hA1 : (A' : Int) < (k : Int) := by omega
              have hcy : wr.cell? ⟨g, A', none⟩ = some (.int .i64 y) := by
                rw [hOi.cellAt A' (by omega)]
                simp [ints, hy]
              have hnx : decide (x < y) = false := by simp; omega
              clear hy hAe
              go_wp2_with fail
              go_quiet (fail)
              clear hcy hsub hA1 hwr
              rename_i nq
              obtain ⟨wd, hwd⟩ : ∃ wd, wr.drewN nq = wd := ⟨_, rfl⟩
              rw [hwd]
              have hNd : wd.heap.size = N := by rw [← hwd]; exact hN
              replace RA : Hid (Row wd 1 (some ⟨g, 0, none⟩) (A) (ints (ys.take (A)))) := hwd ▸ RA
              replace RD : Hid (Row wd 1 (some ⟨g, 0, none⟩) (k - (A)) (ints (ys.drop (A)))) := hwd ▸ RD
              have hcx3 : wd.cell? ⟨b, off + k, none⟩ = some (.int .i64 x) := hwd ▸ hcx2
              have BD : Below w.heap.size w wd := hwd ▸ bdn HB9.out nq
              have BN := Lib.hid (Below.refl N wd)
              have hNle : N ≤ wd.heap.size := by omega
              have hbN : b < N := by rw [← hNd]; exact World.block_lt_of_cell? wd _ hcx3
              have SZ1 : Hid (∀ o : Obj, N + 1 ≤ (wd.alloc o).drew.heap.size) := fun o => by show N + 1 ≤ (wd.alloc o).heap.size; rw [World.size_alloc]; omega
              have SZ2 : Hid (∀ o o' : Obj, N + 2 ≤ ((wd.alloc o).alloc o').drew.heap.size) := fun o o' => by show N + 2 ≤ ((wd.alloc o).alloc o').heap.size; rw [World.size_alloc, World.size_alloc]; omega
              clear hwd hOi hbi hcx2 hN
              go_wp2_with fail
              go_region_held3 (fun w' => w'.cell? ⟨b, off + k, none⟩ = some (.int .i64 x)) (first | exact hcx3 | exact (BN.out.cell (p := ⟨b, off + k, none⟩) hbN).trans hcx3 | exact (((BN.out).alloc (by have := BN.out.size; omega) _).cell (p := ⟨b, off + k, none⟩) hbN).trans hcx3 | exact ((((BN.out).alloc (by omega) _).alloc (by rw [World.size_alloc]; omega) _).cell (p := ⟨b, off + k, none⟩) hbN).trans hcx3)
                ((first | (refine step_app0 _ (by rfl) (.tmp 31) (.tmp 34) _ (by rfl) Try.underlying22 info_i64 (by rfl) (by decide) (by rfl) (Own.lit0' wd 2 1 N hNd.symm).drew (SZ1.out _) (by rfl) (RA.out.alloc _).drew (ints_one _) (by simp only [maxLen]; omega) (by omega) (Nat.le_of_succ_le (SZ1.out _)) ?_; intro A2 c2 w5 h5 hb5 hg5; simp only [Nat.zero_add, List.nil_append] at h5; replace BN := Lib.hid ((((Below.refl N wd).alloc hNle _).drew).trans hb5)) | (refine step_app0 _ (by rfl) (.tmp 31) (.tmp 34) _ (by rfl) Try.underlying22 info_i64 (by rfl) (by decide) (by rfl) ((Own.lit0' wd 2 1 N hNd.symm).alloc _).drew (Nat.le_of_succ_le (SZ2.out _ _)) (by rfl) ((RA.out.alloc _).alloc _).drew (ints_one _) (by simp only [maxLen]; omega) (by omega) (Nat.le_trans (Nat.le_add_right N 2) (SZ2.out _ _)) ?_; intro A2 c2 w5 h5 hb5 hg5; have R40 := Lib.hid ((Row.one' (wd.alloc (.cells #[] 2)) (.int .i64 x) 2 (N + 1) (by rw [World.size_alloc]; omega)).drew.apart1 (g := N) (by omega) (by simpa [Value.ownBlock] using hg5) (fun _ b off e => by injection e with e; injection e with e _ _; omega)); replace BN := Lib.hid (((((Below.refl N wd).alloc hNle _).alloc (by rw [World.size_alloc]; omega) _).drew).trans hb5)) | (refine step_app0 _ (by rfl) (.tmp 31) (.tmp 34) _ (by rfl) Try.underlying22 info_i64 (by rfl) (by decide) (by rfl) ((Own.lit0' (wd.alloc (.cells #[.int .i64 x] 2)) 2 1 (N + 1) (by rw [World.size_alloc]; omega)).mono (lo' := N) (by omega) (Nat.le_refl _)).drew (SZ2.out _ _) (by rfl) ((RA.out.alloc _).alloc _).drew (ints_one _) (by simp only [maxLen]; omega) (by omega) (Nat.le_trans (Nat.le_add_right N 2) (SZ2.out _ _)) ?_; intro A2 c2 w5 h5 hb5 hg5; have R40 := Lib.hid (((Row.one' wd (.int .i64 x) 2 N hNd.symm).alloc (.cells #[] 2)).drew.apart1 (g := N + 1) (by omega) (by simpa [Value.ownBlock] using hg5) (fun _ b off e => by injection e with e; injection e with e _ _; omega)); replace BN := Lib.hid (((((Below.refl N wd).alloc hNle _).alloc (by rw [World.size_alloc]; omega) _).drew).trans hb5)) | (refine step_app0 _ (by rfl) (.tmp 35) (.tmp 40) _ (by rfl) Try.underlying22 info_i64 (by rfl) (by decide) (by rfl) (h5.alloc _) (by rw [World.size_alloc]; omega) (by rfl) (Row.one _ _ _) (ints_one [x]) (by simp only [maxLen]; omega) (by omega) (by have := BN.out.size; rw [World.size_alloc]; omega) ?_; intro A3 c3 w6 h6 hb6 hg6; replace BN := Lib.hid (((BN.out).alloc (by have := BN.out.size; omega) _).trans hb6)) | (refine step_app0 _ (by rfl) (.tmp 35) (.tmp 40) _ (by rfl) Try.underlying22 info_i64 (by rfl) (by decide) (by rfl) h5 (Nat.le_refl _) (by rfl) R40.out (ints_one [x]) (by simp only [maxLen]; omega) (by omega) (by have := BN.out.size; omega) ?_; intro A3 c3 w6 h6 hb6 hg6; replace BN := Lib.hid (BN.out.trans hb6)) | (refine step_app0 _ (by rfl) (.tmp 41) (.tmp 44) _ (by rfl) Try.underlying22 info_i64 (by rfl) (by decide) (by rfl) h6 (Nat.le_refl _) (by rfl) (RD.out.below BN.out (by omega)) (ints_one _) (by simp only [maxLen]; omega) (by omega) (by have := BN.out.size; omega) ?_; intro A4 c4 w7 h7 hb7 hg7; replace BN := Lib.hid (BN.out.trans hb7)) | fail))
              all_goals
                have hbs := BD.size
                have e9 : (A) + 1 + (k - (A)) = k + 1 := by omega
                have e10 : 0 + (A) + 1 + (k - (A)) = k + 1 := by omega
                first | rw [e9] at h7 | rw [e10] at h7
                try simp only [List.nil_append] at h7
                have hown := h7.mono (lo' := w.heap.size) (by omega) (Nat.le_refl _)
                obtain ⟨g9, rfl, -, -, -⟩ := hown.head (by omega)
                have hcap := hown.capBd
                have hfin : Hid (Own w7 w.heap.size w7.heap.size 2 1 (some ⟨g9, 0, none⟩) (k + 1) c4 (ints (ys.take (A) ++ [x] ++ ys.drop (A)))) := by
                  unfold Hid
                  have e8 : (ints (ys.take (A)) ++ ints [x] ++ ints (ys.drop (A))) = ints (ys.take (A) ++ [x] ++ ys.drop (A)) := by simp [ints]
                  rw [← e8]
                  exact hown
                have B7 := BD.trans (BN.out.mono (by have := BD.size; omega))
                clear h7 hown
                go_wp2
                go_roundw
                case rel => exact ⟨k + 1, g9, c4, _, by omega, by go_num, by first | rw [e9] | rw [e10], hcap.1, hcap.2, hfin.out, hstep, B7⟩
                case measure => simp [intOf]; omega
            · have hA00 : ¬ (0 : Int) < (A : Int) := by omega
              have hA01 : decide ((0 : Int) < (A : Int)) = false := by simp; omega
              have hA02 : decide (0 < A) = false := by simp; omega
              have hA03 : ¬ 0 < A := by omega
              clear hAz
              go_wp2_with fail
              go_quiet (fail)
              clear hA00 hA01 hA02 hA03
              rename_i nq
              obtain ⟨wd, hwd⟩ : ∃ wd, wr.drewN nq = wd := ⟨_, rfl⟩
              rw [hwd]
              have hNd : wd.heap.size = N := by rw [← hwd]; exact hN
              replace RA : Hid (Row wd 1 (some ⟨g, 0, none⟩) (A) (ints (ys.take (A)))) := hwd ▸ RA
              replace RD : Hid (Row wd 1 (some ⟨g, 0, none⟩) (k - (A)) (ints (ys.drop (A)))) := hwd ▸ RD
              have hcx3 : wd.cell? ⟨b, off + k, none⟩ = some (.int .i64 x) := hwd ▸ hcx2
              have BD : Below w.heap.size w wd := hwd ▸ bdn HB9.out nq
              have BN := Lib.hid (Below.refl N wd)
              have hNle : N ≤ wd.heap.size := by omega
              have hbN : b < N := by rw [← hNd]; exact World.block_lt_of_cell? wd _ hcx3
              have SZ1 : Hid (∀ o : Obj, N + 1 ≤ (wd.alloc o).drew.heap.size) := fun o => by show N + 1 ≤ (wd.alloc o).heap.size; rw [World.size_alloc]; omega
              have SZ2 : Hid (∀ o o' : Obj, N + 2 ≤ ((wd.alloc o).alloc o').drew.heap.size) := fun o o' => by show N + 2 ≤ ((wd.alloc o).alloc o').heap.size; rw [World.size_alloc, World.size_alloc]; omega
              clear hwd hOi hbi hcx2 hN
              go_wp2_with fail
              go_region_held3 (fun w' => w'.cell? ⟨b, off + k, none⟩ = some (.int .i64 x)) (first | exact hcx3 | exact (BN.out.cell (p := ⟨b, off + k, none⟩) hbN).trans hcx3 | exact (((BN.out).alloc (by have := BN.out.size; omega) _).cell (p := ⟨b, off + k, none⟩) hbN).trans hcx3 | exact ((((BN.out).alloc (by omega) _).alloc (by rw [World.size_alloc]; omega) _).cell (p := ⟨b, off + k, none⟩) hbN).trans hcx3)
                ((first | (refine step_app0 _ (by rfl) (.tmp 31) (.tmp 34) _ (by rfl) Try.underlying22 info_i64 (by rfl) (by decide) (by rfl) (Own.lit0' wd 2 1 N hNd.symm).drew (SZ1.out _) (by rfl) (RA.out.alloc _).drew (ints_one _) (by simp only [maxLen]; omega) (by omega) (Nat.le_of_succ_le (SZ1.out _)) ?_; intro A2 c2 w5 h5 hb5 hg5; simp only [Nat.zero_add, List.nil_append] at h5; replace BN := Lib.hid ((((Below.refl N wd).alloc hNle _).drew).trans hb5)) | (refine step_app0 _ (by rfl) (.tmp 31) (.tmp 34) _ (by rfl) Try.underlying22 info_i64 (by rfl) (by decide) (by rfl) ((Own.lit0' wd 2 1 N hNd.symm).alloc _).drew (Nat.le_of_succ_le (SZ2.out _ _)) (by rfl) ((RA.out.alloc _).alloc _).drew (ints_one _) (by simp only [maxLen]; omega) (by omega) (Nat.le_trans (Nat.le_add_right N 2) (SZ2.out _ _)) ?_; intro A2 c2 w5 h5 hb5 hg5; have R40 := Lib.hid ((Row.one' (wd.alloc (.cells #[] 2)) (.int .i64 x) 2 (N + 1) (by rw [World.size_alloc]; omega)).drew.apart1 (g := N) (by omega) (by simpa [Value.ownBlock] using hg5) (fun _ b off e => by injection e with e; injection e with e _ _; omega)); replace BN := Lib.hid (((((Below.refl N wd).alloc hNle _).alloc (by rw [World.size_alloc]; omega) _).drew).trans hb5)) | (refine step_app0 _ (by rfl) (.tmp 31) (.tmp 34) _ (by rfl) Try.underlying22 info_i64 (by rfl) (by decide) (by rfl) ((Own.lit0' (wd.alloc (.cells #[.int .i64 x] 2)) 2 1 (N + 1) (by rw [World.size_alloc]; omega)).mono (lo' := N) (by omega) (Nat.le_refl _)).drew (SZ2.out _ _) (by rfl) ((RA.out.alloc _).alloc _).drew (ints_one _) (by simp only [maxLen]; omega) (by omega) (Nat.le_trans (Nat.le_add_right N 2) (SZ2.out _ _)) ?_; intro A2 c2 w5 h5 hb5 hg5; have R40 := Lib.hid (((Row.one' wd (.int .i64 x) 2 N hNd.symm).alloc (.cells #[] 2)).drew.apart1 (g := N + 1) (by omega) (by simpa [Value.ownBlock] using hg5) (fun _ b off e => by injection e with e; injection e with e _ _; omega)); replace BN := Lib.hid (((((Below.refl N wd).alloc hNle _).alloc (by rw [World.size_alloc]; omega) _).drew).trans hb5)) | (refine step_app0 _ (by rfl) (.tmp 35) (.tmp 40) _ (by rfl) Try.underlying22 info_i64 (by rfl) (by decide) (by rfl) (h5.alloc _) (by rw [World.size_alloc]; omega) (by rfl) (Row.one _ _ _) (ints_one [x]) (by simp only [maxLen]; omega) (by omega) (by have := BN.out.size; rw [World.size_alloc]; omega) ?_; intro A3 c3 w6 h6 hb6 hg6; replace BN := Lib.hid (((BN.out).alloc (by have := BN.out.size; omega) _).trans hb6)) | (refine step_app0 _ (by rfl) (.tmp 35) (.tmp 40) _ (by rfl) Try.underlying22 info_i64 (by rfl) (by decide) (by rfl) h5 (Nat.le_refl _) (by rfl) R40.out (ints_one [x]) (by simp only [maxLen]; omega) (by omega) (by have := BN.out.size; omega) ?_; intro A3 c3 w6 h6 hb6 hg6; replace BN := Lib.hid (BN.out.trans hb6)) | (refine step_app0 _ (by rfl) (.tmp 41) (.tmp 44) _ (by rfl) Try.underlying22 info_i64 (by rfl) (by decide) (by rfl) h6 (Nat.le_refl _) (by rfl) (RD.out.below BN.out (by omega)) (ints_one _) (by simp only [maxLen]; omega) (by omega) (by have := BN.out.size; omega) ?_; intro A4 c4 w7 h7 hb7 hg7; replace BN := Lib.hid (BN.out.trans hb7)) | fail))
              all_goals
                have hbs := BD.size
                have e9 : (A) + 1 + (k - (A)) = k + 1 := by omega
                have e10 : 0 + (A) + 1 + (k - (A)) = k + 1 := by omega
                first | rw [e9] at h7 | rw [e10] at h7
                try simp only [List.nil_append] at h7
                have hown := h7.mono (lo' := w.heap.size) (by omega) (Nat.le_refl _)
                obtain ⟨g9, rfl, -, -, -⟩ := hown.head (by omega)
                have hcap := hown.capBd
                have hfin : Hid (Own w7 w.heap.size w7.heap.size 2 1 (some ⟨g9, 0, none⟩) (k + 1) c4 (ints (ys.take (A) ++ [x] ++ ys.drop (A)))) := by
                  unfold Hid
                  have e8 : (ints (ys.take (A)) ++ ints [x] ++ ints (ys.drop (A))) = ints (ys.take (A) ++ [x] ++ ys.drop (A)) := by simp [ints]
                  rw [← e8]
                  exact hown
                have B7 := BD.trans (BN.out.mono (by have := BD.size; omega))
                clear h7 hown
                go_wp2
                go_roundw
                case rel => exact ⟨k + 1, g9, c4, _, by omega, by go_num, by first | rw [e9] | rw [e10], hcap.1, hcap.2, hfin.out, hstep, B7⟩
                case measure => simp [intOf]; omega
          · have RD := Lib.hid (RDf.out (some ⟨g, A, none⟩) (fun h => by rw [Nat.zero_add]))
            clear RDf
            rcases hor with ⟨A', y, hAe, hy, hyx⟩ | hAz
            · have hsub : (A : Int) - 1 = (A' : Int) := by omega
              have hA00 : (0 : Int) < (A : Int) := by omega
              have hA02 : 0 < A := by omega
              have hwr : IntKind.i64.wrap ((A : Int) - 1) = (A' : Int) := by rw [IntKind.wrap_i64]; omega
              have hA1 : (A' : Int) < (k : Int) := by omega
              have hcy : wr.cell? ⟨g, A', none⟩ = some (.int .i64 y) := by
                rw [hOi.cellAt A' (by omega)]
                simp [ints, hy]
              have hnx : decide (x < y) = false := by simp; omega
              clear hy hAe
              go_wp2_with fail
              go_quiet (fail)
              clear hcy hsub hA1 hwr
              rename_i nq
              obtain ⟨wd, hwd⟩ : ∃ wd, wr.drewN nq = wd := ⟨_, rfl⟩
              rw [hwd]
              have hNd : wd.heap.size = N := by rw [← hwd]; exact hN
              replace RA : Hid (Row wd 1 (some ⟨g, 0, none⟩) (A) (ints (ys.take (A)))) := hwd ▸ RA
              replace RD : Hid (Row wd 1 (some ⟨g, A, none⟩) (k - (A)) (ints (ys.drop (A)))) := hwd ▸ RD
              have hcx3 : wd.cell? ⟨b, off + k, none⟩ = some (.int .i64 x) := hwd ▸ hcx2
              have BD : Below w.heap.size w wd := hwd ▸ bdn HB9.out nq
              have BN := Lib.hid (Below.refl N wd)
              have hNle : N ≤ wd.heap.size := by omega
              have hbN : b < N := by rw [← hNd]; exact World.block_lt_of_cell? wd _ hcx3
              have SZ1 : Hid (∀ o : Obj, N + 1 ≤ (wd.alloc o).drew.heap.size) := fun o => by show N + 1 ≤ (wd.alloc o).heap.size; rw [World.size_alloc]; omega
              have SZ2 : Hid (∀ o o' : Obj, N + 2 ≤ ((wd.alloc o).alloc o').drew.heap.size) := fun o o' => by show N + 2 ≤ ((wd.alloc o).alloc o').heap.size; rw [World.size_alloc, World.size_alloc]; omega
              clear hwd hOi hbi hcx2 hN
              go_wp2_with fail
              go_region_held3 (fun w' => w'.cell? ⟨b, off + k, none⟩ = some (.int .i64 x)) (first | exact hcx3 | exact (BN.out.cell (p := ⟨b, off + k, none⟩) hbN).trans hcx3 | exact (((BN.out).alloc (by have := BN.out.size; omega) _).cell (p := ⟨b, off + k, none⟩) hbN).trans hcx3 | exact ((((BN.out).alloc (by omega) _).alloc (by rw [World.size_alloc]; omega) _).cell (p := ⟨b, off + k, none⟩) hbN).trans hcx3)
                ((first | (refine step_app0 _ (by rfl) (.tmp 31) (.tmp 34) _ (by rfl) Try.underlying22 info_i64 (by rfl) (by decide) (by rfl) (Own.lit0' wd 2 1 N hNd.symm).drew (SZ1.out _) (by rfl) (RA.out.alloc _).drew (ints_one _) (by simp only [maxLen]; omega) (by omega) (Nat.le_of_succ_le (SZ1.out _)) ?_; intro A2 c2 w5 h5 hb5 hg5; simp only [Nat.zero_add, List.nil_append] at h5; replace BN := Lib.hid ((((Below.refl N wd).alloc hNle _).drew).trans hb5)) | (refine step_app0 _ (by rfl) (.tmp 31) (.tmp 34) _ (by rfl) Try.underlying22 info_i64 (by rfl) (by decide) (by rfl) ((Own.lit0' wd 2 1 N hNd.symm).alloc _).drew (Nat.le_of_succ_le (SZ2.out _ _)) (by rfl) ((RA.out.alloc _).alloc _).drew (ints_one _) (by simp only [maxLen]; omega) (by omega) (Nat.le_trans (Nat.le_add_right N 2) (SZ2.out _ _)) ?_; intro A2 c2 w5 h5 hb5 hg5; have R40 := Lib.hid ((Row.one' (wd.alloc (.cells #[] 2)) (.int .i64 x) 2 (N + 1) (by rw [World.size_alloc]; omega)).drew.apart1 (g := N) (by omega) (by simpa [Value.ownBlock] using hg5) (fun _ b off e => by injection e with e; injection e with e _ _; omega)); replace BN := Lib.hid (((((Below.refl N wd).alloc hNle _).alloc (by rw [World.size_alloc]; omega) _).drew).trans hb5)) | (refine step_app0 _ (by rfl) (.tmp 31) (.tmp 34) _ (by rfl) Try.underlying22 info_i64 (by rfl) (by decide) (by rfl) ((Own.lit0' (wd.alloc (.cells #[.int .i64 x] 2)) 2 1 (N + 1) (by rw [World.size_alloc]; omega)).mono (lo' := N) (by omega) (Nat.le_refl _)).drew (SZ2.out _ _) (by rfl) ((RA.out.alloc _).alloc _).drew (ints_one _) (by simp only [maxLen]; omega) (by omega) (Nat.le_trans (Nat.le_add_right N 2) (SZ2.out _ _)) ?_; intro A2 c2 w5 h5 hb5 hg5; have R40 := Lib.hid (((Row.one' wd (.int .i64 x) 2 N hNd.symm).alloc (.cells #[] 2)).drew.apart1 (g := N + 1) (by omega) (by simpa [Value.ownBlock] using hg5) (fun _ b off e => by injection e with e; injection e with e _ _; omega)); replace BN := Lib.hid (((((Below.refl N wd).alloc hNle _).alloc (by rw [World.size_alloc]; omega) _).drew).trans hb5)) | (refine step_app0 _ (by rfl) (.tmp 35) (.tmp 40) _ (by rfl) Try.underlying22 info_i64 (by rfl) (by decide) (by rfl) (h5.alloc _) (by rw [World.size_alloc]; omega) (by rfl) (Row.one _ _ _) (ints_one [x]) (by simp only [maxLen]; omega) (by omega) (by have := BN.out.size; rw [World.size_alloc]; omega) ?_; intro A3 c3 w6 h6 hb6 hg6; replace BN := Lib.hid (((BN.out).alloc (by have := BN.out.size; omega) _).trans hb6)) | (refine step_app0 _ (by rfl) (.tmp 35) (.tmp 40) _ (by rfl) Try.underlying22 info_i64 (by rfl) (by decide) (by rfl) h5 (Nat.le_refl _) (by rfl) R40.out (ints_one [x]) (by simp only [maxLen]; omega) (by omega) (by have := BN.out.size; omega) ?_; intro A3 c3 w6 h6 hb6 hg6; replace BN := Lib.hid (BN.out.trans hb6)) | (refine step_app0 _ (by rfl) (.tmp 41) (.tmp 44) _ (by rfl) Try.underlying22 info_i64 (by rfl) (by decide) (by rfl) h6 (Nat.le_refl _) (by rfl) (RD.out.below BN.out (by omega)) (ints_one _) (by simp only [maxLen]; omega) (by omega) (by have := BN.out.size; omega) ?_; intro A4 c4 w7 h7 hb7 hg7; replace BN := Lib.hid (BN.out.trans hb7)) | fail))
              all_goals
                have hbs := BD.size
                have e9 : (A) + 1 + (k - (A)) = k + 1 := by omega
                have e10 : 0 + (A) + 1 + (k - (A)) = k + 1 := by omega
                first | rw [e9] at h7 | rw [e10] at h7
                try simp only [List.nil_append] at h7
                have hown := h7.mono (lo' := w.heap.size) (by omega) (Nat.le_refl _)
                obtain ⟨g9, rfl, -, -, -⟩ := hown.head (by omega)
                have hcap := hown.capBd
                have hfin : Hid (Own w7 w.heap.size w7.heap.size 2 1 (some ⟨g9, 0, none⟩) (k + 1) c4 (ints (ys.take (A) ++ [x] ++ ys.drop (A)))) := by
                  unfold Hid
                  have e8 : (ints (ys.take (A)) ++ ints [x] ++ ints (ys.drop (A))) = ints (ys.take (A) ++ [x] ++ ys.drop (A)) := by simp [ints]
                  rw [← e8]
                  exact hown
                have B7 := BD.trans (BN.out.mono (by have := BD.size; omega))
                clear h7 hown
                go_wp2
                go_roundw
                case rel => exact ⟨k + 1, g9, c4, _, by omega, by go_num, by first | rw [e9] | rw [e10], hcap.1, hcap.2, hfin.out, hstep, B7⟩
                case measure => simp [intOf]; omega
            · have hA00 : ¬ (0 : Int) < (A : Int) := by omega
              have hA01 : decide ((0 : Int) < (A : Int)) = false := by simp; omega
              have hA02 : decide (0 < A) = false := by simp; omega
              have hA03 : ¬ 0 < A := by omega
              clear hAz
              go_wp2_with fail
              go_quiet (fail)
              clear hA00 hA01 hA02 hA03
              rename_i nq
              obtain ⟨wd, hwd⟩ : ∃ wd, wr.drewN nq = wd := ⟨_, rfl⟩
              rw [hwd]
              have hNd : wd.heap.size = N := by rw [← hwd]; exact hN
              replace RA : Hid (Row wd 1 (some ⟨g, 0, none⟩) (A) (ints (ys.take (A)))) := hwd ▸ RA
              replace RD : Hid (Row wd 1 (some ⟨g, A, none⟩) (k - (A)) (ints (ys.drop (A)))) := hwd ▸ RD
              have hcx3 : wd.cell? ⟨b, off + k, none⟩ = some (.int .i64 x) := hwd ▸ hcx2
              have BD : Below w.heap.size w wd := hwd ▸ bdn HB9.out nq
              have BN := Lib.hid (Below.refl N wd)
              have hNle : N ≤ wd.heap.size := by omega
              have hbN : b < N := by rw [← hNd]; exact World.block_lt_of_cell? wd _ hcx3
              have SZ1 : Hid (∀ o : Obj, N + 1 ≤ (wd.alloc o).drew.heap.size) := fun o => by show N + 1 ≤ (wd.alloc o).heap.size; rw [World.size_alloc]; omega
              have SZ2 : Hid (∀ o o' : Obj, N + 2 ≤ ((wd.alloc o).alloc o').drew.heap.size) := fun o o' => by show N + 2 ≤ ((wd.alloc o).alloc o').heap.size; rw [World.size_alloc, World.size_alloc]; omega
              clear hwd hOi hbi hcx2 hN
              go_wp2_with fail
              go_region_held3 (fun w' => w'.cell? ⟨b, off + k, none⟩ = some (.int .i64 x)) (first | exact hcx3 | exact (BN.out.cell (p := ⟨b, off + k, none⟩) hbN).trans hcx3 | exact (((BN.out).alloc (by have := BN.out.size; omega) _).cell (p := ⟨b, off + k, none⟩) hbN).trans hcx3 | exact ((((BN.out).alloc (by omega) _).alloc (by rw [World.size_alloc]; omega) _).cell (p := ⟨b, off + k, none⟩) hbN).trans hcx3)
                ((first | (refine step_app0 _ (by rfl) (.tmp 31) (.tmp 34) _ (by rfl) Try.underlying22 info_i64 (by rfl) (by decide) (by rfl) (Own.lit0' wd 2 1 N hNd.symm).drew (SZ1.out _) (by rfl) (RA.out.alloc _).drew (ints_one _) (by simp only [maxLen]; omega) (by omega) (Nat.le_of_succ_le (SZ1.out _)) ?_; intro A2 c2 w5 h5 hb5 hg5; simp only [Nat.zero_add, List.nil_append] at h5; replace BN := Lib.hid ((((Below.refl N wd).alloc hNle _).drew).trans hb5)) | (refine step_app0 _ (by rfl) (.tmp 31) (.tmp 34) _ (by rfl) Try.underlying22 info_i64 (by rfl) (by decide) (by rfl) ((Own.lit0' wd 2 1 N hNd.symm).alloc _).drew (Nat.le_of_succ_le (SZ2.out _ _)) (by rfl) ((RA.out.alloc _).alloc _).drew (ints_one _) (by simp only [maxLen]; omega) (by omega) (Nat.le_trans (Nat.le_add_right N 2) (SZ2.out _ _)) ?_; intro A2 c2 w5 h5 hb5 hg5; have R40 := Lib.hid ((Row.one' (wd.alloc (.cells #[] 2)) (.int .i64 x) 2 (N + 1) (by rw [World.size_alloc]; omega)).drew.apart1 (g := N) (by omega) (by simpa [Value.ownBlock] using hg5) (fun _ b off e => by injection e with e; injection e with e _ _; omega)); replace BN := Lib.hid (((((Below.refl N wd).alloc hNle _).alloc (by rw [World.size_alloc]; omega) _).drew).trans hb5)) | (refine step_app0 _ (by rfl) (.tmp 31) (.tmp 34) _ (by rfl) Try.underlying22 info_i64 (by rfl) (by decide) (by rfl) ((Own.lit0' (wd.alloc (.cells #[.int .i64 x] 2)) 2 1 (N + 1) (by rw [World.size_alloc]; omega)).mono (lo' := N) (by omega) (Nat.le_refl _)).drew (SZ2.out _ _) (by rfl) ((RA.out.alloc _).alloc _).drew (ints_one _) (by simp only [maxLen]; omega) (by omega) (Nat.le_trans (Nat.le_add_right N 2) (SZ2.out _ _)) ?_; intro A2 c2 w5 h5 hb5 hg5; have R40 := Lib.hid (((Row.one' wd (.int .i64 x) 2 N hNd.symm).alloc (.cells #[] 2)).drew.apart1 (g := N + 1) (by omega) (by simpa [Value.ownBlock] using hg5) (fun _ b off e => by injection e with e; injection e with e _ _; omega)); replace BN := Lib.hid (((((Below.refl N wd).alloc hNle _).alloc (by rw [World.size_alloc]; omega) _).drew).trans hb5)) | (refine step_app0 _ (by rfl) (.tmp 35) (.tmp 40) _ (by rfl) Try.underlying22 info_i64 (by rfl) (by decide) (by rfl) (h5.alloc _) (by rw [World.size_alloc]; omega) (by rfl) (Row.one _ _ _) (ints_one [x]) (by simp only [maxLen]; omega) (by omega) (by have := BN.out.size; rw [World.size_alloc]; omega) ?_; intro A3 c3 w6 h6 hb6 hg6; replace BN := Lib.hid (((BN.out).alloc (by have := BN.out.size; omega) _).trans hb6)) | (refine step_app0 _ (by rfl) (.tmp 35) (.tmp 40) _ (by rfl) Try.underlying22 info_i64 (by rfl) (by decide) (by rfl) h5 (Nat.le_refl _) (by rfl) R40.out (ints_one [x]) (by simp only [maxLen]; omega) (by omega) (by have := BN.out.size; omega) ?_; intro A3 c3 w6 h6 hb6 hg6; replace BN := Lib.hid (BN.out.trans hb6)) | (refine step_app0 _ (by rfl) (.tmp 41) (.tmp 44) _ (by rfl) Try.underlying22 info_i64 (by rfl) (by decide) (by rfl) h6 (Nat.le_refl _) (by rfl) (RD.out.below BN.out (by omega)) (ints_one _) (by simp only [maxLen]; omega) (by omega) (by have := BN.out.size; omega) ?_; intro A4 c4 w7 h7 hb7 hg7; replace BN := Lib.hid (BN.out.trans hb7)) | fail))
              all_goals
                have hbs := BD.size
                have e9 : (A) + 1 + (k - (A)) = k + 1 := by omega
                have e10 : 0 + (A) + 1 + (k - (A)) = k + 1 := by omega
                first | rw [e9] at h7 | rw [e10] at h7
                try simp only [List.nil_append] at h7
                have hown := h7.mono (lo' := w.heap.size) (by omega) (Nat.le_refl _)
                obtain ⟨g9, rfl, -, -, -⟩ := hown.head (by omega)
                have hcap := hown.capBd
                have hfin : Hid (Own w7 w.heap.size w7.heap.size 2 1 (some ⟨g9, 0, none⟩) (k + 1) c4 (ints (ys.take (A) ++ [x] ++ ys.drop (A)))) := by
                  unfold Hid
                  have e8 : (ints (ys.take (A)) ++ ints [x] ++ ints (ys.drop (A))) = ints (ys.take (A) ++ [x] ++ ys.drop (A)) := by simp [ints]
                  rw [← e8]
                  exact hown
                have B7 := BD.trans (BN.out.mono (by have := BD.size; omega))
                clear h7 hown
                go_wp2
                go_roundw
                case rel => exact ⟨k + 1, g9, c4, _, by omega, by go_num, by first | rw [e9] | rw [e10], hcap.1, hcap.2, hfin.out, hstep, B7⟩
                case measure => simp [intOf]; omega
    · go_wp2
      go_ret
      have hd : ys = sortI zs := sortI_eq (by have := hS.out.1; rwa [List.take_of_length_le (by have := HL.out; omega)] at this) hS.out.2
      obtain rfl : k = n := by omega
      exact ⟨_, _, rfl, hd ▸ hO, hbel⟩
end Go.Proofs.Ytpnhfdppndcpnaa
