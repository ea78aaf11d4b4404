/- Spans sorted by their lower ends: slices.SortedFunc of the spans with gaps' comparison. -/
import Derived.Test.YtdihpllebccncaaIterS
import Derived.Test.YtdihpllebccncaaCover
import Derived.Shelf.SlSortCmp.NoneTotal
import Derived.Deep.RegionHeld3
namespace Go.Proofs.Ytdihpllebccncaa
open Go.RowKit Go.Shelf Go.Sort
set_option maxRecDepth 100000

/-- A world that has grown and drawn, no more. -/
def Gr (W W' : World) : Prop := ∃ (q : Nat) (os : Array Obj), W' = grow (W.drewN q) os
theorem Gr.refl (W : World) : Gr W W := ⟨0, #[], by rw [grow_empty]; rfl⟩
theorem Gr.trans {A B C : World} (h : Gr A B) (k : Gr B C) : Gr A C := by
  obtain ⟨q, os, rfl⟩ := h
  obtain ⟨q', os', rfl⟩ := k
  exact ⟨q + q', os ++ os', by rw [← grow_grow, ← World.drewN_drewN]; rfl⟩
theorem Gr.drew (W : World) : Gr W W.drew := ⟨1, #[], by rw [grow_empty]; rfl⟩
theorem Gr.alloc (W : World) (o : Obj) : Gr W (W.alloc o) := ⟨0, #[o], by rw [alloc_eq_grow]; rfl⟩
theorem Gr.below {W W' : World} (h : Gr W W') : Below W.heap.size W W' := by
  obtain ⟨q, os, rfl⟩ := h
  exact (Below.refl _ _).grown (row := none) ⟨rfl, rfl, rfl, by simp [grow], fun k hk _ => heap_grow_old (W.drewN q) os (by simpa using hk)⟩ (Nat.le_refl _) (fun k e => by cases e)
theorem Gr.blk {W W' : World} {A : Nat} {t : TypeId} {cs : Array Value} (h : Gr W W') (k : Blk W A t cs) : Blk W' A t cs := k.below h.below k.lt

/-- The lower end, as the program reckons it. -/
def keyS (x : I2) : Int := wrap64 (x.1 - x.2)
theorem low_ex (x : I2) (w : World) : Calls Try.prog 65 #[.agg #[.int .i64 x.1, .int .i64 x.2]] w fun e w' => e = .returned (.int .i64 (keyS x)) ∧ Gr w w' := by
  go_enter Try.func65, Try.ntmps65
  go_wp2
  go_ret
  exact ⟨rfl, Gr.alloc _ _⟩

set_option maxHeartbeats 2000000 in
theorem closure_any (x y : I2) (W : World) : Calls Try.prog 63 #[.agg #[.int .i64 x.1, .int .i64 x.2], .agg #[.int .i64 y.1, .int .i64 y.2]] W fun e w' => e = .returned (.int .i64 (Lib.compareInt (keyS x) (keyS y))) ∧ Gr W w' := by
  go_enter Try.func63, Try.ntmps63
  go_wp2_with fail
  have G0 := (Gr.alloc W (.cells #[.int .i64 x.1, .int .i64 x.2] 49)).trans (Gr.alloc _ (.cells #[.int .i64 y.1, .int .i64 y.2] 49))
  have KX := Blk.new W 49 #[.int .i64 x.1, .int .i64 x.2]
  replace KX := (Gr.alloc _ (.cells #[.int .i64 y.1, .int .i64 y.2] 49)).blk KX
  have KY := Blk.new (W.alloc (.cells #[.int .i64 x.1, .int .i64 x.2] 49)) 49 #[.int .i64 y.1, .int .i64 y.2]
  simp only [World.size_alloc] at KY
  obtain ⟨wa, hwa⟩ : ∃ wa, (W.alloc (.cells #[.int .i64 x.1, .int .i64 x.2] 49)).alloc (.cells #[.int .i64 y.1, .int .i64 y.2] 49) = wa := ⟨_, rfl⟩
  rw [hwa] at G0 KX KY ⊢
  obtain ⟨A, hA⟩ : ∃ A, W.heap.size = A := ⟨_, rfl⟩
  rw [hA] at KX KY ⊢
  have HX := Lib.hid KX
  have HY := Lib.hid KY
  have q0 := KX.cell 0
  have q1 := KX.cell 1
  have q2 := KY.cell 0
  have q3 := KY.cell 1
  clear hwa hA KX KY
  have B1 := Gr.drew wa
  go_region_held3 (fun w' => w'.cell? ⟨A, 0, none⟩ = some (.int .i64 x.1) ∧ w'.cell? ⟨A, 1, none⟩ = some (.int .i64 x.2) ∧ w'.cell? ⟨A + 1, 0, none⟩ = some (.int .i64 y.1) ∧ w'.cell? ⟨A + 1, 1, none⟩ = some (.int .i64 y.2)) (exact ⟨(B1.blk HX.out).cell 0, (B1.blk HX.out).cell 1, (B1.blk HY.out).cell 0, (B1.blk HY.out).cell 1⟩) (first | (go_at_call 65; first | (refine (low_ex x _).mono ?_; rintro e w1 ⟨rfl, hb⟩; replace B1 := B1.trans hb; clear hb; dsimp only) | (refine (low_ex y _).mono ?_; rintro e w1 ⟨rfl, hb⟩; replace B1 := B1.trans hb; clear hb; dsimp only)) | (go_at_call 64; refine (cmp_Compare_int _ _ _).mono ?_; rintro e w1 ⟨rfl, rfl⟩))
  all_goals (go_wp2_with fail; go_ret; exact ⟨rfl, G0.trans B1⟩)

theorem ltS (x y : I2) : ltOf (fun x y : I2 => Lib.compareInt (keyS x) (keyS y)) x y = decide (keyS x < keyS y) := by
  unfold ltOf Lib.compareInt
  by_cases h1 : keyS x < keyS y
  · simp [h1]
  · by_cases h2 : keyS y < keyS x <;> simp [h1, h2]
theorem swoS : SWO (ltOf fun x y : I2 => Lib.compareInt (keyS x) (keyS y)) where
  irrefl x := by rw [ltS]; simp
  trans x y z h1 h2 := by rw [ltS] at *; simp at *; omega
  ntrans x y z h1 h2 := by rw [ltS] at *; simp at *; omega

def encS (x : I2) : List Value := [.int .i64 x.1, .int .i64 x.2]
theorem flat_prs (d : Array I2) : flatK encS 2 d = (prs d.toList).toArray := by
  apply Array.ext
  · simp [prs_length]
  · intro i h1 h2
    have hi : i < d.size * 2 := by simpa using h1
    have hk : i / 2 < d.size := by omega
    have hx : d.toList[i / 2]? = some d[i / 2] := by simp [hk]
    obtain ⟨g0, g1⟩ := prs_get hx
    have e : (flatK encS 2 d)[i] = (encS d[i / 2]!)[i % 2]! := by rw [← get_flatK encS 2 d i hi]; exact (getElem!_pos _ i h1).symm
    rw [e, getElem!_pos d (i / 2) hk]
    rcases Nat.mod_two_eq_zero_or_one i with h | h
    · rw [show i / 2 * 2 = i by omega] at g0
      obtain ⟨_, g⟩ := List.getElem?_eq_some_iff.1 g0
      simp [encS, h, g]
    · rw [show i / 2 * 2 + 1 = i by omega] at g1
      obtain ⟨_, g⟩ := List.getElem?_eq_some_iff.1 g1
      simp [encS, h, g]

theorem isAggS : ∀ w, (isAgg 49).run Try.prog w = .ok true w := fun _ => rfl
theorem sizeOfS : ∀ w, (Go.sizeOf 49).run Try.prog w = .ok 2 w := fun _ => rfl

/-- What sorting leaves. -/
def SortedS (zs ts : List I2) : Prop := ts.Perm zs ∧ ts.Pairwise (fun a b => keyS a ≤ keyS b)
theorem sortedS_of {zs : List I2} {d' : Array I2} (hp : PermIn 0 zs.toArray.size zs.toArray d') (hs : SortedIn (ltOf fun x y : I2 => Lib.compareInt (keyS x) (keyS y)) 0 zs.toArray.size d') : SortedS zs d'.toList ∧ d'.toList.length = zs.length := by
  obtain ⟨h1, -, h3⟩ := hp
  have hl : d'.size = zs.length := by simpa using h1
  refine ⟨⟨?_, ?_⟩, by simpa using hl⟩
  · have e1 : d'.extract 0 zs.toArray.size = d' := by rw [← h1]; simp
    have e2 : zs.toArray.extract 0 zs.toArray.size = zs.toArray := by simp
    rw [e1, e2] at h3
    exact h3
  · rw [List.pairwise_iff_getElem]
    intro i j hi hj hij
    have hi' : i < d'.size := by simpa using hi
    have hj' : j < d'.size := by simpa using hj
    have := hs i j (Nat.zero_le _) hij (by simp; omega)
    rw [ltS, getElem!_pos d' i hi', getElem!_pos d' j hj'] at this
    simp at this ⊢
    exact this

theorem holdsS {w : World} {g : Nat} {cur : Array Value} {e : TypeId} {zs : List I2} (hb : w.heap[g]? = some (.cells cur e (0, 0))) (ht : cur.toList.take (zs.length * 2) = prs zs) : HoldsK encS 2 w g 0 zs.toArray := by
  unfold HoldsK
  rw [flat_prs]
  intro j hj
  have hj' : j < zs.length * 2 := by simpa [prs_length] using hj
  refine ⟨?_, by simp [World.frozen?, hb]⟩
  have h1 : (cur.toList.take (zs.length * 2))[j]? = (prs zs)[j]? := by rw [ht]
  rw [List.getElem?_take_of_lt hj'] at h1
  simp only [World.cell?, hb, Nat.zero_add]
  simp only [Option.isSome_none, Bool.false_eq_true, if_false]
  rw [← Array.getElem?_toList, h1, List.getElem?_eq_getElem (by rw [prs_length]; omega)]
  simp only [id_eq]
  rw [getElem!_pos _ j (by simpa [prs_length] using hj')]
  simp
theorem heapS {w : World} {g n : Nat} {os : Array Obj} {cur : Array Value} {e : TypeId} {fr : Nat × Nat} (d : Array Value) (hb : w.heap[g]? = some (.cells cur e fr)) :
    (grow (putRow id (Sort.ahead w n) g 0 d) os).heap[g]? = some (.cells (putCells id 0 d cur) e fr) := by
  have hg : g < w.heap.size := (Array.getElem?_eq_some_iff.1 hb).1
  rw [heap_grow_old _ _ (by simpa using hg)]
  simp [putRow, mapBlock, Sort.ahead, Array.getElem?_modify, hb, onCells]
theorem grownS {w : World} {g n : Nat} {os : Array Obj} (d : Array Value) : w.grownBy (grow (putRow id (Sort.ahead w n) g 0 d) os) (some g) := by
  refine ⟨rfl, rfl, rfl, by simp, fun k hk hne => ?_⟩
  rw [heap_grow_old _ _ (by simpa using hk)]
  have : g ≠ k := fun e => hne (by rw [e])
  simp [putRow, mapBlock, Sort.ahead, Array.getElem?_modify, this]

set_option maxHeartbeats 1000000 in
/-- slices.SortFunc of a row of spans that is the call's own. -/
theorem sortFunc_any (lo : Nat) (v : Value) (zs : List I2) (W : World) (hrow : W.ownsRow lo 49 2 v zs.length (prs zs)) (hl : zs.length ≤ 1048576) :
    Calls Try.prog 69 #[v, .func (.func 63) #[] #[]] W fun e w' => e = .returned (.tuple #[]) ∧ ∃ ts, SortedS zs ts ∧ w'.ownsRow lo 49 2 v zs.length (prs ts) ∧ Below lo W w' := by
  rcases hrow.2 with ⟨rfl, hz⟩ | ⟨gb, cp, cur, rfl, hbase, hgb, r1, r2, r3, r4⟩
  · refine (AnyF.slices_SortFunc_none laysSort none 0 _ W).mono ?_
    rintro e w' ⟨rfl, rfl⟩
    exact ⟨rfl, zs, ⟨List.Perm.refl _, by rw [List.eq_nil_of_length_eq_zero hz]; exact List.Pairwise.nil⟩, hrow, Below.refl _ _⟩
  · have eg : ∀ args w, (callFunc 63 args).run Try.prog w = .ok (.enter 63 args) w := enters_of Try.func63 (by kernel_rfl) rfl
    have hcon := AnyQ.slices_SortFunc laysSort 2 isAggS sizeOfS encS (fun _ => rfl) (fun x v hv => by simp [encS] at hv; rcases hv with rfl | rfl <;> rfl) (fun x y => Lib.compareInt (keyS x) (keyS y)) swoS 63 #[] gb 0 cp zs.toArray W eg
      (fun _ _ _ _ x y => (closure_any x y _).mono fun _ _ ⟨he, q, os, hw⟩ => ⟨he, q, os, hw⟩) (holdsS hgb r4) (Array.getElem?_eq_some_iff.1 hgb).1 (by simp; omega)
    refine hcon.mono ?_
    rintro e w' ⟨rfl, d', n, os, hp, hs, rfl⟩
    obtain ⟨h1, h2⟩ := sortedS_of hp hs
    refine ⟨rfl, d'.toList, h1, ?_, ?_⟩
    · unfold sortWorldK putRowK
      rw [flat_prs]
      have hh := heapS (n := n) (os := os) (prs d'.toList).toArray hgb
      refine ⟨by rw [prs_length, h2], .inr ⟨gb, cp, _, rfl, hbase, hh, r1, r2, by simp [putCells, r3], ?_⟩⟩
      apply List.ext_getElem?
      intro j
      by_cases hj : j < zs.length * 2
      · rw [List.getElem?_take_of_lt hj, Array.getElem?_toList]
        have hjc : j < cur.size := by
          rw [r3]; have : zs.length * 2 ≤ cp * 2 := Nat.mul_le_mul_right 2 r1; omega
        simp [putCells, prs_length, h2, hj, hjc]
      · rw [List.getElem?_take_eq_none (by omega), List.getElem?_eq_none (by rw [prs_length, h2]; omega)]
    · unfold sortWorldK putRowK
      exact (Below.refl lo W).grown (grownS _) (by have := (Array.getElem?_eq_some_iff.1 hgb).1; omega) (fun k e => by cases e; exact hbase)

set_option maxHeartbeats 1000000 in
theorem sortedFunc_any (Bs len cap : Nat) (a : Option Addr) (zs : List I2) (hlen : len ≤ 1048576) (w : World) (hBs : Bs < w.heap.size)
    (hc : w.cell? ⟨Bs, 0, none⟩ = some (.slice a len cap)) (hI : SpansAt w.heap.size w a len zs) :
    Calls Try.prog 61 #[.func (.func 70) #[] #[.pointer (some ⟨Bs, 0, none⟩)], .func (.func 63) #[] #[]] w fun e W' =>
      ∃ a' c' ts, e = .returned (.slice a' zs.length c') ∧ SortedS zs ts ∧ Own W' w.heap.size W'.heap.size 49 2 a' zs.length c' (prs ts) ∧ Below w.heap.size w W' := by
  have hzl : zs.length ≤ len := by
    rcases hI with ⟨_, rfl⟩ | ⟨_, _, _, h, _⟩
    · simp
    · omega
  have HI := Lib.hid hI
  clear hI
  go_enter Try.func61, Try.ntmps61
  go_wp2_with fail
  go_at_call 68
  refine (collect_any Bs len cap a zs hlen w hBs hc HI.out).mono ?_
  rintro e W ⟨v, rfl, hrow, hb⟩
  have hv : ∃ a' c', v = .slice a' zs.length c' := by
    rcases hrow.2 with ⟨rfl, hz⟩ | ⟨gb, cp, cur, rfl, _⟩
    · exact ⟨none, 0, by rw [hz]⟩
    · exact ⟨_, _, rfl⟩
  obtain ⟨a', c', rfl⟩ := hv
  go_wp2_with fail
  go_at_call 69
  refine (sortFunc_any w.heap.size _ zs W hrow (by omega)).mono ?_
  rintro e W2 ⟨rfl, ts, hts, hrow2, hb2⟩
  clear hrow
  go_wp2
  go_ret
  refine ⟨a', c', ts, rfl, hts, ⟨hrow2, fun g hg => ?_⟩, hb.trans hb2⟩
  rcases hrow2.2 with ⟨h, _⟩ | ⟨gb, cp, cur, h, _, hgb, _⟩
  · injection h with h; subst h; simp [Value.ownBlock] at hg
  · injection h with h; subst h
    simp [Value.ownBlock] at hg
    subst hg
    exact (Array.getElem?_eq_some_iff.1 hgb).1
end Go.Proofs.Ytdihpllebccncaa
