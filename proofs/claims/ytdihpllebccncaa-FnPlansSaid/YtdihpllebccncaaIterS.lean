/- slices.Values, Collect of a list of spans: the iterator gives the list; what collects it owns it. -/
import Derived.Test.YtdihpllebccncaaLib
import Derived.Test.YtdihpllebccncaaSpan
import Derived.Test.YtdihpllebccncaaPGaps
import Derived.Test.YtdihpllebccncaaShelf
import Derived.RangeFuncBox
import Derived.RangeFuncBound
import Derived.RangeFuncNested
import Derived.RangeFuncCalls
import Derived.RangeFuncLeaves
import Derived.Shelf.Abstract
import Derived.Shelf.RegionOpen
import Derived.OwnWalkIn
import Derived.TacticsInMore
import Derived.LoopNIn
import Derived.LoopIn
import Derived.Maps.AppendAt
import Derived.Sort.OwnSorted
namespace Go.Proofs.Ytdihpllebccncaa
open Go.RowKit Go.Shelf Go.Sort
set_option maxRecDepth 100000
set_option linter.unusedVariables false

attribute [local go_sem] Oper.semAt_some

/-- A span by value. -/
abbrev enS (x : I2) : Value := .agg #[.int .i64 x.1, .int .i64 x.2]
def upto {α : Type} (f : Nat → α) (k : Nat) : List α := (List.range k).map f
theorem upto_succ {α : Type} (f : Nat → α) (k : Nat) : upto f (k + 1) = upto f k ++ [f k] := by simp [upto, List.range_succ]
theorem upto_length {α : Type} (f : Nat → α) (k : Nat) : (upto f k).length = k := by simp [upto]
theorem upto_all (zs : List I2) : upto (fun j => zs[j]?.getD (0, 0)) zs.length = zs := by
  apply List.ext_getElem
  · simp [upto]
  · intro i h1 h2
    simp [upto, h2]
theorem upto_take (zs : List I2) {k : Nat} (hk : k ≤ zs.length) : upto (fun j => zs[j]?.getD (0, 0)) k = zs.take k := by
  apply List.ext_getElem
  · simp [upto, hk]
  · intro i h1 h2
    have : i < zs.length := by simp [upto] at h1; omega
    simp [upto, this]

set_option maxHeartbeats 4000000 in
/-- The closure of slices.Values, for every loop body that keeps what lay below n₀. -/
theorem values1_in (FF : Fence) (n : Nat) (h7 : FF.fn 70) (hro : FF.round = none) (hn : 1 ≤ n) (l Bs n₀ b off len cap : Nat) (zs : List I2) (hreach : len * 16 ≤ 140737488351232) (hb : b < n₀) (J Jx : List I2 → World → Prop)
    (hJ : ∀ pre W o, J pre W → J pre (World.alloc W o))
    (hY : ∀ pre x W, J pre W → pre.length < len → YieldAt FF (n - 1) Try.prog l #[enS x] W fun e W' =>
      (e = .returned (.bool true) ∧ J (pre ++ [x]) W' ∧ Below n₀ W W') ∨ (e = .returned (.bool false) ∧ Jx (pre ++ [x]) W'))
    (W : World) (hn₀ : n₀ ≤ W.heap.size) (hBs : W.cell? ⟨Bs, 0, none⟩ = some (.slice (some ⟨b, off, none⟩) len cap)) (hc : ∀ j, j < len → W.cell? ⟨b, off + j * 2, none⟩ = some (.int .i64 (zs[j]?.getD (0, 0)).1) ∧ W.cell? ⟨b, off + j * 2 + 1, none⟩ = some (.int .i64 (zs[j]?.getD (0, 0)).2)) (h0 : J [] W) :
    CallsIn FF n Try.prog 70 #[.func (.yield l) #[] #[], .pointer (some ⟨Bs, 0, none⟩)] W fun e W' => (∃ v, e = .returned v) ∧
      ((∃ ys, ys = upto (fun j => zs[j]?.getD (0, 0)) len ∧ J ys W') ∨ (∃ pre, (∃ k, k ≤ len ∧ pre = upto (fun j => zs[j]?.getD (0, 0)) k) ∧ Jx pre W')) := by
  refine callsIn_of_wp Try.func70 rfl h7 ?_ hro
  simp only [Try.ntmps70, List.size_toArray, List.length_cons, List.length_nil, Nat.reduceAdd, Nat.reduceSub, Array.replicate_succ, Array.replicate_zero, List.push_toArray, List.append_toArray, List.nil_append, List.cons_append]
  gi_wp2
  gi_loopw [4, 7] (fun _ i wr => ∃ k : Nat, k ≤ len ∧ i = .int .i64 k ∧ J (upto (fun j => zs[j]?.getD (0, 0)) k) wr ∧ Below n₀ W wr)
    (fun _ i _ => len - (intOf i).toNat)
  case atStart => exact ⟨0, Nat.zero_le _, rfl, h0, Below.refl _ _⟩
  case round =>
    obtain ⟨k, hk, rfl, hJs, hnx⟩ := hrel
    have hcx : k < len → wr.cell? ⟨b, off + k * 2, none⟩ = some (.int .i64 (zs[k]?.getD (0, 0)).1) ∧ wr.cell? ⟨b, off + k * 2 + 1, none⟩ = some (.int .i64 (zs[k]?.getD (0, 0)).2) := fun h => ⟨(hnx.cell (p := ⟨b, off + k * 2, none⟩) hb).trans (hc k h).1, (hnx.cell (p := ⟨b, off + k * 2 + 1, none⟩) hb).trans (hc k h).2⟩
    have hsz := hnx.size
    by_cases hlt : k < len
    · have hY2 := fun W1 (h : J (upto (fun j => zs[j]?.getD (0, 0)) k) W1) => hY _ (zs[k]?.getD (0, 0)) W1 h (by rw [upto_length]; exact hlt)
      obtain ⟨x, hx⟩ : ∃ x, zs[k]?.getD (0, 0) = x := ⟨_, rfl⟩
      have hup := upto_succ (fun j => zs[j]?.getD (0, 0)) k
      simp only [hx] at hcx hY2 hup
      obtain ⟨hc1, hc2⟩ := hcx hlt
      have hbw := World.block_lt_of_cell? wr _ hc1
      obtain ⟨fn, tmps, assign, body, hy, hR⟩ := hY2 (wr.alloc (.cells #[.int .i64 x.1, .int .i64 x.2] 49)) (hJ _ _ _ hJs)
      clear hcx
      gi_wp2
      refine hR.mono ?_
      rintro e W3 (⟨rfl, hJ3, hk3⟩ | ⟨rfl, hJx3⟩)
      · gi_wp2
        go_roundw
        case rel => exact ⟨k + 1, by omega, by simp, by rw [hup]; exact hJ3, (hnx.alloc (by omega) _).trans hk3⟩
        case measure => simp [intOf]; omega
      · gi_wp2
        refine bodyPost_ret (results_none rfl _ _ _) rfl ?_
        exact ⟨⟨_, rfl⟩, .inr ⟨_, ⟨k + 1, by omega, hup.symm⟩, hJx3⟩⟩
    · obtain rfl : k = len := by omega
      gi_wp2
      go_end0
      exact ⟨⟨_, rfl⟩, .inl ⟨_, rfl, hJs⟩⟩

/-- A slice value that holds spans, in a block below n₀; or there are none. -/
def SpansAt (n₀ : Nat) (W : World) (a : Option Addr) (n : Nat) (zs : List I2) : Prop :=
  (n = 0 ∧ zs = []) ∨ ∃ b off, a = some ⟨b, off, none⟩ ∧ zs.length = n ∧ b < n₀ ∧ ∀ j, j < n → W.cell? ⟨b, off + j * 2, none⟩ = some (.int .i64 (zs[j]?.getD (0, 0)).1) ∧ W.cell? ⟨b, off + j * 2 + 1, none⟩ = some (.int .i64 (zs[j]?.getD (0, 0)).2)
theorem SpansAt.below {n₀ : Nat} {A B : World} (h : Below n₀ A B) {a : Option Addr} {n : Nat} {zs : List I2} : SpansAt n₀ A a n zs → SpansAt n₀ B a n zs
  | .inl e => .inl e
  | .inr ⟨b, off, e, hl, hb, hc⟩ => .inr ⟨b, off, e, hl, hb, fun j hj => ⟨(h.cell (p := ⟨b, off + j * 2, none⟩) hb).trans (hc j hj).1, (h.cell (p := ⟨b, off + j * 2 + 1, none⟩) hb).trans (hc j hj).2⟩⟩
theorem Row.spansAt {w : World} {a : Option Addr} {n : Nat} {zs : List I2} (h : Row w 2 a n (prs zs)) : SpansAt w.heap.size w a n zs := by
  have hl := h.len2
  rcases Nat.eq_zero_or_pos n with h0 | h0
  · exact .inl ⟨h0, List.eq_nil_of_length_eq_zero (by omega)⟩
  · obtain ⟨b, off, e, hc⟩ := h.2 h0
    have hcj : ∀ j, j < n → w.cell? ⟨b, off + j * 2, none⟩ = some (.int .i64 (zs[j]?.getD (0, 0)).1) ∧ w.cell? ⟨b, off + j * 2 + 1, none⟩ = some (.int .i64 (zs[j]?.getD (0, 0)).2) := fun j hj => by
      have hx : zs[j]? = some zs[j] := List.getElem?_eq_getElem (by omega)
      rw [hx]
      have g := prs_get hx
      exact ⟨hc _ _ g.1, by rw [Nat.add_assoc]; exact hc _ _ g.2⟩
    exact .inr ⟨b, off, e, hl, World.block_lt_of_cell? w _ (hcj 0 h0).1, hcj⟩

set_option maxHeartbeats 1000000 in
/-- .. at a slice of no element: no round. -/
theorem values1_nil_in (FF : Fence) (n : Nat) (h7 : FF.fn 70) (hro : FF.round = none) (l Bs cap : Nat) (a : Option Addr) (J : List I2 → World → Prop) (W : World) (hBs : W.cell? ⟨Bs, 0, none⟩ = some (.slice a 0 cap)) (h0 : J [] W) :
    CallsIn FF n Try.prog 70 #[.func (.yield l) #[] #[], .pointer (some ⟨Bs, 0, none⟩)] W fun e W' => (∃ v, e = .returned v) ∧ J [] W' := by
  refine callsIn_of_wp Try.func70 rfl h7 ?_ hro
  simp only [Try.ntmps70, List.size_toArray, List.length_cons, List.length_nil, Nat.reduceAdd, Nat.reduceSub, Array.replicate_succ, Array.replicate_zero, List.push_toArray, List.append_toArray, List.nil_append, List.cons_append]
  gi_wp2
  gi_loopw [4, 7] (fun _ i wr => i = .int .i64 0 ∧ J [] wr) (fun _ _ _ => 0)
  case atStart => exact ⟨rfl, h0⟩
  case round =>
    obtain ⟨rfl, hJs⟩ := hrel
    gi_wp2
    go_end0
    exact ⟨⟨_, rfl⟩, hJs⟩

theorem values_stops (FF : Fence) (n : Nat) (h7 : FF.fn 70) (hro : FF.round = none) (hn : 1 ≤ n) (Bs n₀ len cap : Nat) (a : Option Addr) (zs : List I2) (hreach : len * 16 ≤ 140737488351232) (w : World) (hBs : Bs < w.heap.size) (hn₀ : n₀ ≤ w.heap.size)
    (hc : w.cell? ⟨Bs, 0, none⟩ = some (.slice a len cap)) (hI : SpansAt n₀ w a len zs) :
    SeqStopsK FF n Try.prog 70 #[.pointer (some ⟨Bs, 0, none⟩)] (fun x : I2 => #[enS x]) (Below n₀) (fun ys => ys = zs) (fun pre => pre <+: zs) len w := fun l J Jx W hW hJ _ hY h0 => by
  have hc' := (hW.cell (p := ⟨Bs, 0, none⟩) hBs).trans hc
  rcases hI.below (hW.mono hn₀) with ⟨rfl, rfl⟩ | ⟨b, off, rfl, rfl, hb, hcs⟩
  · exact (values1_nil_in FF n h7 hro l Bs cap a J W hc' h0).mono fun e W' ⟨he, hj⟩ => ⟨he, .inl ⟨_, rfl, hj⟩⟩
  · refine (values1_in FF n h7 hro hn l Bs n₀ b off zs.length cap zs hreach hb J Jx (fun pre W o h => hJ pre W _ none h (World.grownBy_alloc W o none) (fun r e => by cases e)) hY W (Nat.le_trans hn₀ hW.size) hc' hcs h0).mono ?_
    rintro e W' ⟨he, ⟨ys, rfl, hj⟩ | ⟨pre, ⟨k, hk, rfl⟩, hj⟩⟩
    · exact ⟨he, .inl ⟨_, upto_all zs, hj⟩⟩
    · exact ⟨he, .inr ⟨_, by rw [upto_take zs hk]; exact List.take_prefix _ _, hj⟩⟩

/-- Block B is the box of a span. -/
def Box2 (W : World) (B : Nat) (x : I2) : Prop := W.heap[B]? = some (.cells #[.int .i64 x.1, .int .i64 x.2] 49 (0, 0))
theorem Box2.lt {W : World} {B : Nat} {x : I2} (h : Box2 W B x) : B < W.heap.size := (Array.getElem?_eq_some_iff.1 h).1
theorem Box2.new (W : World) (x : I2) : Box2 (W.alloc (.cells #[.int .i64 x.1, .int .i64 x.2] 49)) W.heap.size x := World.alloc_heap_new W _
theorem Box2.cell {W : World} {B : Nat} {x : I2} (h : Box2 W B x) : W.cell? ⟨B, 0, none⟩ = some (.int .i64 x.1) ∧ W.cell? ⟨B, 1, none⟩ = some (.int .i64 x.2) := by simp [World.cell?, show W.heap[B]? = _ from h]
theorem Box2.kept {W W' : World} {row : Option Nat} {B : Nat} {x : I2} (h : Box2 W B x) (hg : W.grownBy W' row) (hr : ∀ r, row = some r → ∃ o : Obj, W.heap[r]? = some o ∧ o.isCells = false) : Box2 W' B x :=
  (hg.block B h.lt (fun e' => by obtain ⟨o, ho, hc⟩ := hr B e'.symm; rw [show W.heap[B]? = _ from h] at ho; cases ho; cases hc)).trans h
theorem cell2_new (W : World) (x : I2) (E : TypeId) : ∀ j u, (prs [x])[j]? = some u → (W.alloc (.cells #[.int .i64 x.1, .int .i64 x.2] E)).cell? ((⟨W.heap.size, 0, none⟩ : Addr).add j) = some u := by
  intro j u hu
  have hj : j < 2 := by have := (List.getElem?_eq_some_iff.1 hu).1; simpa [prs] using this
  have hh : (W.alloc (.cells #[.int .i64 x.1, .int .i64 x.2] E)).heap[W.heap.size]? = some (.cells #[.int .i64 x.1, .int .i64 x.2] E (0, 0)) := World.alloc_heap_new W _
  revert hh
  generalize W.alloc (.cells #[.int .i64 x.1, .int .i64 x.2] E) = W'
  intro hh
  obtain rfl | rfl : j = 0 ∨ j = 1 := by omega
  · simp [prs] at hu; subst hu; simp [Addr.add, World.cell?, hh]
  · simp [prs] at hu; subst hu; simp [Addr.add, World.cell?, hh]

set_option maxHeartbeats 2000000 in
/-- slices.AppendSeq(nil, slices.Values(zs)). -/
theorem appendSeq_in (FF : Fence) (n : Nat) (h46 : FF.fn 72) (h43 : FF.fn 70) (hro : FF.round = none) (hn : 2 ≤ n) (Bs len cap : Nat) (a : Option Addr) (zs : List I2) (hlen : len ≤ 1048576) (w : World) (hBs : Bs < w.heap.size)
    (hc : w.cell? ⟨Bs, 0, none⟩ = some (.slice a len cap)) (hI : SpansAt w.heap.size w a len zs) :
    CallsIn FF n Try.prog 72 #[.slice none 0 0, .func (.func 70) #[] #[.pointer (some ⟨Bs, 0, none⟩)]] w fun e W' =>
      ∃ v, e = .returned v ∧ W'.ownsRow w.heap.size 49 2 v zs.length (prs zs) ∧ Below w.heap.size w W' := by
  have h1 : 1 ≤ n := by omega
  have hzl : zs.length ≤ len := by
    rcases hI with ⟨_, rfl⟩ | ⟨_, _, _, h, _⟩
    · simp
    · omega
  obtain ⟨i0, hi, hz0, hz1, hz2⟩ := info_parts info_Span
  refine callsIn_of_wp_marks Try.func72 rfl h46 ?_ hro
  simp only [Try.ntmps72, List.size_toArray, List.length_cons, List.length_nil, Nat.reduceAdd, Nat.reduceSub, Array.replicate_succ, Array.replicate_zero, List.push_toArray, List.append_toArray, List.nil_append, List.cons_append]
  gi_wp2
  have bO := Boxed.new w 26 (.slice none 0 0)
  have hB0 : Below w.heap.size w (w.alloc (.cells #[.slice none 0 0] 26)) := (Below.refl _ w).alloc (Nat.le_refl _) _
  refine wpIn_rangeFunc_ownH hro h1 (gf := 70) (lb := #[.pointer (some ⟨Bs, 0, none⟩)]) rfl h43 (enters_of Try.func70 (by kernel_rfl) rfl)
    (values_stops FF (n - 1) h43 hro (by omega) Bs w.heap.size len cap a zs (by omega) _ (by simp; omega) (by simp) ((hB0.cell (p := ⟨Bs, 0, none⟩) hBs).trans hc) (hI.below hB0)) belowK_t (belowK_b (by simp)) (Below.refl _ _) (fun _ => rfl)
    (fun pre W => (∃ v, Boxed W w.heap.size 26 v ∧ W.ownsRow w.heap.size 49 2 v pre.length (prs pre) ∧ True) ∧ Below w.heap.size w W)
    (fun _ _ _ => False)
    (_root_.Go.OwnFrom.and (_root_.Go.Own.from (holdsRow_own w.heap.size w.heap.size 26 49 2 (fun pre : List I2 => pre.length) (fun pre : List I2 => prs pre) (fun _ _ => True)) _) (ownFrom_below (Nat.le_refl _) (by simp)))
    (fun _ _ _ _ _ hs _ _ => hs)
    ⟨⟨_, bO, World.ownsRow_nil _ _ _ _, trivial⟩, hB0⟩
    (fun x a' W => ∃ Bx, w.heap.size < Bx ∧ Box2 W Bx x ∧ a' = { tmps := #[.slice none 0 0, .func (.func 70) #[] #[.pointer (some ⟨Bs, 0, none⟩)], .pointer (some ⟨w.heap.size, 0, none⟩), undef, .slice none 0 0, .pointer (some ⟨Bx, 0, none⟩), .func (.func 70) #[] #[.pointer (some ⟨Bs, 0, none⟩)], enS x, undef, undef, undef, undef, undef], defers := [] })
    (fun x a' _ X Y row hs hg hr => by obtain ⟨Bx, h1, h2, h3⟩ := hs; exact ⟨Bx, h1, h2.kept hg (fun r e => (hr r e).2), h3⟩)
    ?assign ?body ?done ?stop
  case assign =>
    rintro l pre x W K ⟨⟨v, hv, hrow, -⟩, hB⟩ hK
    gi_wp2
    exact hK _ _ ((KeepsOthers.alloc _ _).from _) ((Below.refl _ W).alloc hB.size _) ⟨⟨v, hv.alloc _, hrow.alloc _, trivial⟩, hB.alloc hB.size _⟩ ⟨W.heap.size, hv.lt, Box2.new W x, rfl⟩
  case body =>
    rintro l pre x a' W hl ⟨r, hr⟩ ⟨⟨v, hv, hrow, -⟩, hB⟩ ⟨Bx, hBx, bX, rfl⟩ hlt
    have hc := hv.cell
    have hx1 := bX.cell.1
    have hx2 := bX.cell.2
    have hBs0 := hB.size
    have hxl := bX.lt
    gi_wp2_with (gi_at_builtin; refine wpListIn_append_own _ rfl _ _ 26 rfl w.heap.size 49 i0 (.agg #[.int .i64 0, .int .i64 0]) 2 16 Try.underlying26 hi hz0 hz1 hz2 rfl (by decide) _ _ _ rfl (hrow.alloc _) ⟨W.heap.size, 0, none⟩ 1 1 (prs [x]) rfl rfl (cell2_new _ _ _) (prs_one _) (by unfold maxLen; omega) (by omega) (by have := hB.size; simp; omega) ?_; intro v' w1 hown' hgrow _; obtain ⟨g', cap', rfl⟩ := ownsRow_succ hown'; obtain ⟨hv1, hv2, hr2, hk2, hb2⟩ := hv.appended (by decide) hrow hB.size (Nat.le_refl _) hown' hgrow; have hc1 := hv1.cell; have hf1 := hv1.frozen)
    exact ⟨hk2.from _, hb2, ⟨_, hv2, by rw [prs_app]; simpa using hr2, trivial⟩, hB.trans hb2⟩
  case done =>
    rintro D ys W hD rfl ⟨⟨v, hv, hrow, -⟩, hB⟩ hK
    have hc := hv.cell
    gi_wp2
    refine ⟨by simp, .inl ⟨_, _, rfl, run_takeDeferred hK, ?_⟩⟩
    exact ⟨_, results_tmp rfl _ _ _, v, rfl, ownsRow_putObj hrow _ hK rfl, hB.trans (belowK_b (w := w) (Nat.le_refl _) W D _ _ (by simp at hD; omega) hK rfl rfl)⟩
  case stop =>
    rintro D c pre W _ _ h _
    exact h.elim

set_option maxHeartbeats 1000000 in
theorem collect_in (FF : Fence) (n : Nat) (h41 : FF.fn 68) (h46 : FF.fn 72) (h43 : FF.fn 70) (hro : FF.round = none) (hn : 3 ≤ n) (Bs len cap : Nat) (a : Option Addr) (zs : List I2) (hlen : len ≤ 1048576) (w : World) (hBs : Bs < w.heap.size)
    (hc : w.cell? ⟨Bs, 0, none⟩ = some (.slice a len cap)) (hI : SpansAt w.heap.size w a len zs) :
    CallsIn FF n Try.prog 68 #[.func (.func 70) #[] #[.pointer (some ⟨Bs, 0, none⟩)]] w fun e W' =>
      ∃ v, e = .returned v ∧ W'.ownsRow w.heap.size 49 2 v zs.length (prs zs) ∧ Below w.heap.size w W' := by
  have h1 : 1 ≤ n := by omega
  refine callsIn_of_wp Try.func68 rfl h41 ?_ hro
  simp only [Try.ntmps68, List.size_toArray, List.length_cons, List.length_nil, Nat.reduceAdd, Nat.reduceSub, Array.replicate_succ, Array.replicate_zero, List.push_toArray, List.append_toArray, List.nil_append, List.cons_append]
  gi_wp2_with (gi_at_call 72; refine (appendSeq_in FF (n - 1) h46 h43 hro (by omega) Bs len cap a zs hlen _ hBs hc hI).mono ?_; rintro e w' ⟨v, rfl, hrow, hb⟩)
  go_ret
  exact ⟨v, rfl, hrow, hb⟩

theorem collect_any (Bs len cap : Nat) (a : Option Addr) (zs : List I2) (hlen : len ≤ 1048576) (w : World) (hBs : Bs < w.heap.size)
    (hc : w.cell? ⟨Bs, 0, none⟩ = some (.slice a len cap)) (hI : SpansAt w.heap.size w a len zs) :
    Calls Try.prog 68 #[.func (.func 70) #[] #[.pointer (some ⟨Bs, 0, none⟩)]] w fun e W' =>
      ∃ v, e = .returned v ∧ W'.ownsRow w.heap.size 49 2 v zs.length (prs zs) ∧ Below w.heap.size w W' :=
  callsIn_wide.1 (collect_in Fence.wide 3 trivial trivial trivial rfl (Nat.le_refl _) Bs len cap a zs hlen w hBs hc hI)

theorem values_any (a : Option Addr) (len cap : Nat) (w : World) :
    Calls Try.prog 62 #[.slice a len cap] w fun e w' => e = .returned (.func (.func 70) #[] #[.pointer (some ⟨w.heap.size, 0, none⟩)]) ∧ w' = w.alloc (.cells #[.slice a len cap] 26) := by
  have hmf : ∀ (fn : Fn) (first cap : Array Value) (w : World), (Instr.makeFunc fn first cap).run Try.prog w = .ok (.func fn first cap) w := fun _ _ _ _ => rfl
  go_enter Try.func62, Try.ntmps62
  go_wp2
  go_ret
  exact ⟨rfl, rfl⟩
end Go.Proofs.Ytdihpllebccncaa
