/- The statements' helpers on lists of frames: mark, held, eq. -/
import Derived.Test.YtmljcbfpennjkaaFrames
namespace Go.Proofs.Ytmljcbfpennjkaa
open Go.RowKit Go.Shelf
set_option maxRecDepth 100000
set_option linter.unusedVariables false
set_option linter.unusedSimpArgs false

def FrV.mark (f : FrV) (b : Int) : FrV := { f with k := b, m := b + 1, xs := marks (b + 2) f.n }
def offF (fs : List FrV) (i : Nat) : Nat := ((fs.take i).map fun f => f.n + 2).sum
def markTo (m : Int) (fs : List FrV) (j : Nat) : List FrV := fs.mapIdx fun i f => if i < j then f.mark (m + (offF fs i : Nat)) else f
theorem markTo_zero (m : Int) (fs : List FrV) : markTo m fs 0 = fs := by
  apply List.ext_getElem?
  intro i
  simp [markTo, List.getElem?_mapIdx]
theorem markTo_get {m : Int} {fs : List FrV} {i j : Nat} {f : FrV} (h : fs[i]? = some f) : (markTo m fs j)[i]? = some (if i < j then f.mark (m + (offF fs i : Nat)) else f) := by
  simp [markTo, List.getElem?_mapIdx, h]
theorem markTo_succ {m : Int} {fs : List FrV} {j : Nat} {f : FrV} (h : fs[j]? = some f) : (markTo m fs j).set j (f.mark (m + (offF fs j : Nat))) = markTo m fs (j + 1) := by
  apply List.ext_getElem?
  intro i
  have hj : j < (markTo m fs j).length := by have := (List.getElem?_eq_some_iff.1 h).1; simpa [markTo] using this
  rw [List.getElem?_set]
  split
  · rename_i e
    subst e
    rw [markTo_get h, if_pos (by omega)]
  · rename_i e
    simp only [markTo, List.getElem?_mapIdx]
    cases fs[i]? with
    | none => rfl
    | some g =>
      simp only [Option.map_some]
      by_cases hi : i < j
      · rw [if_pos hi, if_pos (by omega)]
      · rw [if_neg hi, if_neg (by omega)]
theorem offF_succ {fs : List FrV} {j : Nat} {f : FrV} (h : fs[j]? = some f) : offF fs (j + 1) = offF fs j + (f.n + 2) := by
  rw [offF, take_snoc h]; simp [offF]
theorem offF_app (a b : List FrV) : ((a ++ b).map fun f => f.n + 2).sum = (a.map fun f => f.n + 2).sum + (b.map fun f => f.n + 2).sum := by simp
theorem offF_le (fs : List FrV) {j n : Nat} (h : j ≤ n) : offF fs j ≤ offF fs n := by
  have e : fs.take n = fs.take j ++ (fs.take n).drop j := by
    have := (List.take_append_drop j (fs.take n)).symm
    rwa [List.take_take, Nat.min_eq_left h] at this
  rw [offF, offF, e, offF_app]
  omega
theorem offF_bd {fs : List FrV} {B : Nat} (h : ∀ f ∈ fs, f.n ≤ B) : ∀ j, offF fs j ≤ j * (B + 2) := by
  intro j
  induction j with
  | zero => simp [offF]
  | succ j ih =>
    rcases Nat.lt_or_ge j fs.length with hl | hl
    · have hx : fs[j]? = some fs[j] := List.getElem?_eq_getElem hl
      rw [offF_succ hx, Nat.succ_mul]
      have := h _ (List.mem_of_getElem? hx)
      omega
    · have e1 : fs.take (j + 1) = fs := List.take_of_length_le (by omega)
      have e2 : fs.take j = fs := List.take_of_length_le (by omega)
      unfold offF at ih ⊢
      rw [e1]
      rw [e2] at ih
      rw [Nat.succ_mul]
      omega

/-- Nothing outside of [lo, hi) has turned. -/
def OutR (lo hi : Nat) (w w' : World) : Prop := Below lo w w' ∧ ∀ b, hi ≤ b → b < w.heap.size → w'.heap[b]? = w.heap[b]?
theorem OutR.refl (lo hi : Nat) (w : World) : OutR lo hi w w := ⟨Below.refl _ _, fun _ _ _ => rfl⟩
theorem OutR.grown {lo hi : Nat} {w w1 w2 : World} (h : OutR lo hi w w1) {row : Option Nat} (hg : w1.grownBy w2 row) (hlo : lo ≤ w.heap.size) (hr : ∀ g, row = some g → lo ≤ g ∧ g < hi) : OutR lo hi w w2 :=
  ⟨h.1.grown hg (Nat.le_trans hlo h.1.size) (fun g e => (hr g e).1), fun b hb hl => (hg.block b (Nat.lt_of_lt_of_le hl h.1.size) (fun e => by have := hr b e.symm; omega)).trans (h.2 b hb hl)⟩
theorem FOwn.outR {w w' : World} {lo hi lo' hi' n c : Nat} {a : Option Addr} {fs : List FrV} (h : FOwn w lo hi a n c fs) (ho : OutR lo' hi' w w') (hd : hi ≤ lo' ∨ hi' ≤ lo) : FOwn w' lo hi a n c fs :=
  h.keep fun b h1 h2 h3 => by
    rcases hd with hd | hd
    · exact ho.1.block b (by omega)
    · exact ho.2 b (by omega) h3
theorem Own.outR {w w' : World} {lo hi lo' hi' E s n c : Nat} {a : Option Addr} {vs : List Value} (h : Own w lo hi E s a n c vs) (ho : OutR lo' hi' w w') (hd : hi ≤ lo' ∨ hi' ≤ lo) : Own w' lo hi E s a n c vs :=
  h.keep fun b h1 h2 h3 => by
    rcases hd with hd | hd
    · exact ho.1.block b (by omega)
    · exact ho.2 b (by omega) h3

theorem frv_eta (f : FrV) (b : Int) (ys : List Int) : ({ ({ ({ f with k := b } : FrV) with m := b + 1 } : FrV) with xs := ys } : FrV) = { f with k := b, m := b + 1, xs := ys } := rfl

set_option maxHeartbeats 3200000 in
theorem markFrameS_any (a : Option Addr) (n c lo hi : Nat) (fs : List FrV) (m : Int) (w : World) (h : FOwn w lo hi a n c fs) (hn : n ≤ 1048576) (hlo : lo ≤ w.heap.size) (hsz : ∀ f ∈ fs, f.n ≤ 1048576) (hm0 : 0 ≤ m) (hm : m + (offF fs n : Nat) ≤ 1099511627000) :
    Calls Try.prog 24 #[.slice a n c, .int .i64 m] w fun e w' => e = .returned (.int .i64 (m + (offF fs n : Nat))) ∧ FOwn w' lo hi a n c (markTo m fs n) ∧ OutR lo hi w w' := by
  have hl := Lib.hid h.len
  have HSZ := Lib.hid hsz
  have HOF := Lib.hid (fun j (hj : j ≤ n) => offF_le fs hj)
  clear hsz
  go_enter Try.func24, Try.ntmps24
  go_wp2
  go_loopw [1, 5] (fun p i wr => ∃ j o : Nat, j ≤ n ∧ i = .int .i64 j ∧ p = .int .i64 (m + (o : Int)) ∧ Hid (o = offF fs j) ∧ FOwn wr lo hi a n c (markTo m fs j) ∧ OutR lo hi w wr) (fun _ i _ => n - (intOf i).toNat)
  case atStart => exact ⟨0, 0, Nat.zero_le _, rfl, by simp, by unfold Hid; simp [offF], by rw [markTo_zero]; exact h, OutR.refl _ _ _⟩
  case round =>
    obtain ⟨j, o, hj, rfl, rfl, ho, hF, hO⟩ := hrel
    by_cases hlt : j < n
    · obtain ⟨f, hx⟩ : ∃ f, fs[j]? = some f := ⟨_, List.getElem?_eq_getElem (by have := hl.out; omega)⟩
      have hmx : (markTo m fs j)[j]? = some f := by rw [markTo_get hx, if_neg (by omega)]
      have hob : m + (o : Int) ≤ 1099511627000 := by have h1 := HOF.out j hj; have h2 := ho.out; omega
      have hfn := HSZ.out f (List.mem_of_getElem? hx)
      obtain ⟨g, rfl, hgl, hgh, hgs⟩ := hF.own.head (by omega)
      obtain ⟨e0, e1, e2⟩ := frms_get hmx
      have hlen : (frms (markTo m fs j)).length = n * 3 := hF.own.len
      have c0 : wr.cell? ⟨g, j * 3, none⟩ = some (.int .i64 f.k) := (hF.own.cellAt (j * 3) (by omega)).trans e0
      have c1 : wr.cell? ⟨g, j * 3 + 1, none⟩ = some (.int .i64 f.m) := (hF.own.cellAt (j * 3 + 1) (by omega)).trans e1
      have c2 : wr.cell? ⟨g, j * 3 + 2, none⟩ = some (.slice f.a f.n f.c) := (hF.own.cellAt (j * 3 + 2) (by omega)).trans e2
      have z0 := hF.own.frozenAt (j * 3)
      have z1 := hF.own.frozenAt (j * 3 + 1)
      have F1 := hF.stored (gs := (markTo m fs j).set j { f with k := m + (o : Int) }) (j * 3) (.int .i64 (m + (o : Int))) (frms_setk hmx _) (set_views hmx ⟨rfl, rfl, rfl, rfl⟩)
      have hm1 : ((markTo m fs j).set j { f with k := m + (o : Int) })[j]? = some { f with k := m + (o : Int) } := by
        rw [List.getElem?_set_self (by have := (List.getElem?_eq_some_iff.1 hmx).1; exact this)]
      have F2 := F1.stored (gs := ((markTo m fs j).set j { f with k := m + (o : Int) }).set j { f with k := m + (o : Int), m := m + (o : Int) + 1 }) (j * 3 + 1) (.int .i64 (m + (o : Int) + 1)) (frms_setm hm1 _) (set_views hm1 ⟨rfl, rfl, rfl, rfl⟩)
      rw [List.set_set] at F2
      have hm2 : ((markTo m fs j).set j { f with k := m + (o : Int), m := m + (o : Int) + 1 })[j]? = some { f with k := m + (o : Int), m := m + (o : Int) + 1 } := by
        rw [List.getElem?_set_self (by have := (List.getElem?_eq_some_iff.1 hmx).1; exact this)]
      have O2 := (hO.grown (hF.own.stored (j * 3) (.int .i64 (m + (o : Int)))).2 hlo (fun b e => by injection e with e; omega)).grown (F1.own.stored (j * 3 + 1) (.int .i64 (m + (o : Int) + 1))).2 hlo (fun b e => by injection e with e; omega)
      have hs2 := O2.1.size
      have HF2 := Lib.hid F2
      have HO2 := Lib.hid O2
      have HM2 := Lib.hid hm2
      have HX := Lib.hid hx
      clear F1 F2 O2 hm1 hm2 hmx hF hO e0 e1 e2 hlen hx hs2
      go_wp2_with fail
      go_at_call 15
      refine (markInt64S_any _ _ _ lo hi f.xs _ _ (HF2.out.pays j { f with k := m + (o : Int), m := m + (o : Int) + 1 } HM2.out) (by omega) (by omega) (by omega)).mono ?_
      rintro e w3 ⟨rfl, o3, hg3⟩
      have F3 := HF2.out.paid (f := { f with k := m + (o : Int), m := m + (o : Int) + 1 }) HM2.out hg3 o3
      rw [List.set_set] at F3
      have hr3 := (HF2.out.pays j { f with k := m + (o : Int), m := m + (o : Int) + 1 } HM2.out).lt
      have O3 := Lib.hid (HO2.out.grown hg3 hlo (fun b e => by have := hr3 b e; omega))
      have hst := markTo_succ (m := m) HX.out
      have hos := offF_succ HX.out
      have HF3 : Hid (FOwn w3 lo hi (some ⟨g, 0, none⟩) n c (markTo m fs (j + 1))) := by
        rw [← hst, ← ho.out]
        rw [show FrV.mark f (m + (o : Int)) = { f with k := m + (o : Int), m := m + (o : Int) + 1, xs := marks (m + (o : Int) + 1 + 1) f.n } by rw [show m + (o : Int) + 1 + 1 = m + (o : Int) + 2 by omega]; rfl]
        exact F3
      have HOS := Lib.hid (show o + (f.n + 2) = offF fs (j + 1) by rw [hos, ← ho.out])
      clear F3 o3 hg3 hr3 hst hos HF2 HO2 HM2
      go_wp2
      go_roundw
      case rel => exact ⟨j + 1, o + (f.n + 2), by omega, by go_num, by simp; omega, HOS.out, HF3.out, O3.out⟩
      case measure => simp [intOf] <;> omega
    · obtain rfl : j = n := by omega
      go_wp2
      go_ret
      exact ⟨by rw [← ho.out]; rfl, hF, hO⟩

set_option maxHeartbeats 3200000 in
theorem heldFrameS_any (a : Option Addr) (n c : Nat) (fs : List FrV) (m : Int) (w : World) (h : FRow w a n (markTo m fs n)) (hl : fs.length = n) (hn : n ≤ 1048576) (hsz : ∀ f ∈ fs, f.n ≤ 1048576) (hm0 : 0 ≤ m) (hm : m + (offF fs n : Nat) ≤ 1099511627000) :
    Calls Try.prog 25 #[.slice a n c, .int .i64 m] w fun e w' => e = .returned (.int .i64 (m + (offF fs n : Nat))) ∧ Below w.heap.size w w' := by
  have HSZ := Lib.hid hsz
  have HOF := Lib.hid (fun j (hj : j ≤ n) => offF_le fs hj)
  have HL := Lib.hid hl
  clear hsz hl
  go_enter Try.func25, Try.ntmps25
  go_wp2
  go_loopw [1, 5] (fun p i wr => ∃ j o : Nat, j ≤ n ∧ i = .int .i64 j ∧ p = .int .i64 (m + (o : Int)) ∧ Hid (o = offF fs j) ∧ Below w.heap.size w wr) (fun _ i _ => n - (intOf i).toNat)
  case atStart => exact ⟨0, 0, Nat.zero_le _, rfl, by simp, by unfold Hid; simp [offF], Below.refl _ _⟩
  case round =>
    obtain ⟨j, o, hj, rfl, rfl, ho, hB⟩ := hrel
    by_cases hlt : j < n
    · obtain ⟨f, hx⟩ : ∃ f, fs[j]? = some f := ⟨_, List.getElem?_eq_getElem (by have := HL.out; omega)⟩
      have hmx : (markTo m fs n)[j]? = some (f.mark (m + (o : Int))) := by rw [markTo_get hx, if_pos hlt, ho.out]
      have hob : m + (o : Int) ≤ 1099511627000 := by have h1 := HOF.out j hj; have h2 := ho.out; omega
      have hfn := HSZ.out f (List.mem_of_getElem? hx)
      have HOS := Lib.hid (show o + (f.n + 2) = offF fs (j + 1) by rw [offF_succ hx, ← ho.out])
      obtain ⟨b, off, f', rfl, c0, c1, c2, hx', hr⟩ := (h.below hB (Nat.le_refl _)).at_ hlt
      obtain rfl : f' = f.mark (m + (o : Int)) := by have := hx'.out; rw [hmx] at this; injection this with this; exact this.symm
      clear hx' hmx hx
      simp only [FrV.mark] at c0 c1 c2 hr
      have hr2 : Row wr 1 f.a f.n (ints (marks (m + (o : Int) + 1 + 1) f.n)) := by rw [show m + (o : Int) + 1 + 1 = m + (o : Int) + 2 by omega]; exact hr
      have HR := Lib.hid hr2
      clear hr hr2
      go_wp2_with fail
      go_at_call 16
      refine (heldInt64S_any _ _ _ _ _ HR.out (by omega) (by omega) (by omega)).mono ?_
      rintro e w3 ⟨rfl, b3⟩
      go_wp2
      go_roundw
      case rel => exact ⟨j + 1, o + (f.n + 2), by omega, by go_num, by simp; omega, HOS.out, hB.trans (b3.mono hB.size)⟩
      case measure => simp [intOf] <;> omega
    · obtain rfl : j = n := by omega
      go_wp2
      go_ret
      exact ⟨by rw [← ho.out]; rfl, hB⟩

theorem same_at {fs gs : List FrV} {j : Nat} {f g : FrV} (he : fs.map FrV.val = gs.map FrV.val) (hf : fs[j]? = some f) (hg : gs[j]? = some g) : f.k = g.k ∧ f.m = g.m ∧ f.xs = g.xs := by
  have h1 : (fs.map FrV.val)[j]? = some f.val := by simp [hf]
  have h2 : (gs.map FrV.val)[j]? = some g.val := by simp [hg]
  rw [he, h2] at h1
  injection h1 with h1
  simp only [FrV.val, Prod.mk.injEq] at h1
  exact ⟨h1.1.symm, h1.2.1.symm, h1.2.2.symm⟩

set_option maxHeartbeats 3200000 in
theorem eqFrameS_same (a b : Option Addr) (n c d : Nat) (fs gs : List FrV) (w : World) (h1 : FRow w a n fs) (h2 : FRow w b n gs) (he : fs.map FrV.val = gs.map FrV.val) (hn : n ≤ 1048576) (hsz : ∀ f ∈ fs, f.n ≤ 1048576) :
    Calls Try.prog 23 #[.slice a n c, .slice b n d] w fun e w' => e = .returned (.bool true) ∧ Below w.heap.size w w' := by
  have HSZ := Lib.hid hsz
  have HE := Lib.hid he
  clear hsz he
  go_enter Try.func23, Try.ntmps23
  go_wp2
  go_loopw [5] (fun i wr => ∃ j : Nat, j ≤ n ∧ i = .int .i64 j ∧ Below w.heap.size w wr) (fun i _ => n - (intOf i).toNat)
  case atStart => exact ⟨0, Nat.zero_le _, rfl, Below.refl _ _⟩
  case round =>
    obtain ⟨j, hj, rfl, hB⟩ := hrel
    by_cases hlt : j < n
    · have hjI : (j : Int) < (n : Int) := by omega
      obtain ⟨b1, off1, f, rfl, c0, c1, c2, hx, hr⟩ := (h1.below hB (Nat.le_refl _)).at_ hlt
      obtain ⟨b2, off2, g, rfl, d0, d1, d2, hy, hs⟩ := (h2.below hB (Nat.le_refl _)).at_ hlt
      obtain ⟨e1, e2, e3⟩ := same_at HE.out hx.out hy.out
      have hfn := HSZ.out f (List.mem_of_getElem? hx.out)
      rw [← e1] at d0
      rw [← e2] at d1
      rw [← e3] at hs
      have HR := Lib.hid hr
      have HS := Lib.hid hs
      have hb1 := World.block_lt_of_cell? wr _ c0
      have hb2 := World.block_lt_of_cell? wr _ d0
      clear hr hs e1 e2 e3 hx hy
      go_wp2_with fail
      go_region_held3 (fun w' => w'.cell? ⟨b1, off1 + j * 3, none⟩ = some (.int .i64 f.k) ∧ w'.cell? ⟨b1, off1 + j * 3 + 1, none⟩ = some (.int .i64 f.m) ∧ w'.cell? ⟨b1, off1 + j * 3 + 2, none⟩ = some (.slice f.a f.n f.c) ∧ w'.cell? ⟨b2, off2 + j * 3, none⟩ = some (.int .i64 f.k) ∧ w'.cell? ⟨b2, off2 + j * 3 + 1, none⟩ = some (.int .i64 f.m) ∧ w'.cell? ⟨b2, off2 + j * 3 + 2, none⟩ = some (.slice g.a g.n g.c)) (first | exact ⟨c0, c1, c2, d0, d1, d2⟩ | exact ⟨(b3.cell (p := ⟨b1, off1 + j * 3, none⟩) (by simpa using hb1)).trans c0, (b3.cell (p := ⟨b1, off1 + j * 3 + 1, none⟩) (by simpa using hb1)).trans c1, (b3.cell (p := ⟨b1, off1 + j * 3 + 2, none⟩) (by simpa using hb1)).trans c2, (b3.cell (p := ⟨b2, off2 + j * 3, none⟩) (by simpa using hb2)).trans d0, (b3.cell (p := ⟨b2, off2 + j * 3 + 1, none⟩) (by simpa using hb2)).trans d1, (b3.cell (p := ⟨b2, off2 + j * 3 + 2, none⟩) (by simpa using hb2)).trans d2⟩ | go_keep) (first | (go_at_call 13; refine (eqFrame_any _ _ _ _ _ _ _ _ _ _ f.xs f.xs wr.drew (show Row wr.drew 1 f.a f.n (ints f.xs) from HR.out) (show Row wr.drew 1 g.a g.n (ints f.xs) from HS.out) hfn).mono ?_; rintro e w3 ⟨rfl, b3⟩; rw [decide_eq_true rfl]))
      all_goals
        go_wp2
        go_roundw
        case rel => exact ⟨j + 1, by omega, by go_num, hB.trans ((show Below wr.heap.size wr w3 from (Below.refl _ _).drew.trans b3).mono hB.size)⟩
        case measure => simp [intOf] <;> omega
    · go_wp2
      go_ret
      exact ⟨rfl, hB⟩
end Go.Proofs.Ytmljcbfpennjkaa
