/- slices.Chunk of a list of integers, eight at a time: the iterator's contract. -/
import Derived.Test.YtmljcbfpennjkaaLib
import Derived.RangeFuncBox
import Derived.RangeFuncBound
import Derived.RangeFuncNested
import Derived.RangeFuncCalls
import Derived.RangeFuncLeaves
import Derived.Shelf.Abstract
import Derived.Shelf.RegionOpen
import Derived.OwnWalkIn
import Derived.TacticsInMore
import Derived.LoopNIn
import Derived.LoopIn
import Derived.Maps.AppendAt
namespace Go.Proofs.Ytmljcbfpennjkaa
open Go.RowKit Go.Shelf
set_option maxRecDepth 100000
set_option linter.unusedVariables false

attribute [local go_sem] Oper.semAt_some

/-- The two boxes that the iterator reads stay as they are. -/
def KpB (Bs Bn : Nat) (W W' : World) : Prop := W'.heap[Bs]? = W.heap[Bs]? ∧ W'.heap[Bn]? = W.heap[Bn]?
theorem KpB.trans {Bs Bn : Nat} {A B C : World} (h : KpB Bs Bn A B) (k : KpB Bs Bn B C) : KpB Bs Bn A C := ⟨k.1.trans h.1, k.2.trans h.2⟩
theorem KpB.put {Bs Bn H : Nat} (h1 : Bs < H) (h2 : Bn < H) (W : World) (l : Nat) (o o' : Obj) (hl : H ≤ l) (_ : W.heap[l]? = some o) (_ : o.isCells = false) (_ : o.isWalk = false) : KpB Bs Bn W (W.putObj l o') :=
  ⟨World.putObj_heap_other (by omega), World.putObj_heap_other (by omega)⟩
theorem KpB.of_below {Bs Bn n₀ : Nat} {W W' : World} (h : Below n₀ W W') (h1 : Bs < n₀) (h2 : Bn < n₀) : KpB Bs Bn W W' := ⟨h.block _ h1, h.block _ h2⟩
theorem take_all {q k : Nat} (h : ¬ k < q) : (List.finRange q).take k = List.finRange q := List.take_of_length_le (by simp; omega)
theorem take_fin {q k : Nat} (h : k < q) : (List.finRange q).take (k + 1) = (List.finRange q).take k ++ [⟨k, h⟩] := take_snoc (by simp [h])

set_option maxHeartbeats 4000000 in
/-- The closure of slices.Chunk(s, 8), where eight divides the length: each piece in turn. -/
theorem chunk1_in (FF : Fence) (n : Nat) (h7 : FF.fn 87) (hro : FF.round = none) (hn : 1 ≤ n) (l Bs Bn g m cap q : Nat) (hm : m = q * 8) (hmc : m ≤ cap) (hcap : cap ≤ maxLen) (J Jx : List (Fin q) → World → Prop) (hJd : ∀ pre W, J pre W → J pre (World.drew W))
    (hY : ∀ pre (x : Fin q) W, J pre W → pre.length < q → YieldAt FF (n - 1) Try.prog l #[.slice (some ⟨g, x.1 * 8, none⟩) 8 8] W fun e W' =>
      (e = .returned (.bool true) ∧ J (pre ++ [x]) W' ∧ KpB Bs Bn W W') ∨ (e = .returned (.bool false) ∧ Jx (pre ++ [x]) W'))
    (W : World) (hBs : W.cell? ⟨Bs, 0, none⟩ = some (.slice (some ⟨g, 0, none⟩) m cap)) (hBn : W.cell? ⟨Bn, 0, none⟩ = some (.int .i64 8)) (h0 : J [] W) :
    CallsIn FF n Try.prog 87 #[.func (.yield l) #[] #[], .pointer (some ⟨Bs, 0, none⟩), .pointer (some ⟨Bn, 0, none⟩)] W fun e W' => (∃ v, e = .returned v) ∧
      ((∃ ys, ys = List.finRange q ∧ J ys W') ∨ (∃ pre, (∃ k, k ≤ q ∧ pre = (List.finRange q).take k) ∧ Jx pre W')) := by
  have HM := Lib.hid hm
  clear hm
  simp only [maxLen] at hcap
  refine callsIn_of_wp Try.func87 rfl h7 ?_ hro
  simp only [Try.ntmps87, List.size_toArray, List.length_cons, List.length_nil, Nat.reduceAdd, Nat.reduceSub, Array.replicate_succ, Array.replicate_zero, List.push_toArray, List.append_toArray, List.nil_append, List.cons_append]
  gi_wp2
  gi_loopw [4, 5] (fun i _ wr => ∃ k j : Nat, k ≤ q ∧ i = .int .i64 j ∧ Hid (j = k * 8) ∧ J ((List.finRange q).take k) wr ∧ KpB Bs Bn W wr)
    (fun i _ _ => m - (intOf i).toNat)
  case atStart => exact ⟨0, 0, Nat.zero_le _, rfl, rfl, h0, ⟨rfl, rfl⟩⟩
  case round =>
    obtain ⟨k, j, hk, rfl, hj, hJs, hkp⟩ := hrel
    have hcs := (World.cell?_of_block (a := ⟨Bs, 0, none⟩) hkp.1).trans hBs
    have hcn := (World.cell?_of_block (a := ⟨Bn, 0, none⟩) hkp.2).trans hBn
    by_cases hlt : k < q
    · have hjm : j + 8 ≤ m := by have := HM.out; have := hj.out; omega
      have hjI : (j : Int) < (m : Int) := by omega
      have hjI2 : (j : Int) ≤ (m : Int) := by omega
      have hne : ¬ cap = j := by omega
      have hne2 : ¬ m = j := by omega
      have hl8 : ¬ ((m - j : Nat) : Int) < 8 := by omega
      have h8 : (j : Int) + 8 ≤ (cap : Int) := by omega
      have hmin : min (8 : Int) ((m - j : Nat) : Int) = 8 := by omega
      have hY2 := hY _ ⟨k, hlt⟩ wr.drew (hJd _ _ hJs) (by rw [List.length_take]; omega)
      rw [show (⟨k, hlt⟩ : Fin q).1 * 8 = j from hj.out.symm] at hY2
      have hup := Lib.hid (take_fin hlt)
      have hmx : Try.prog.follows .mixedOrders = true := by kernel_rfl
      gi_wp2
      gi_region_o
      all_goals
        obtain ⟨fn, tmps, assign, body, hy, hR⟩ := hY2
        gi_wp2
        refine hR.mono ?_
        rintro e W3 (⟨rfl, hJ3, hk3⟩ | ⟨rfl, hJx3⟩)
        · have hcn3 := (World.cell?_of_block (w := wr.drew) (a := ⟨Bn, 0, none⟩) hk3.2).trans hcn
          gi_wp2
          go_roundw
          case rel => exact ⟨k + 1, j + 8, by omega, by go_num, (by have := hj.out; unfold Hid; omega), by rw [hup.out]; exact hJ3, hkp.trans (KpB.trans ⟨rfl, rfl⟩ hk3)⟩
          case measure => simp [intOf] <;> omega
        · gi_wp2
          refine bodyPost_ret (results_none rfl _ _ _) rfl ?_
          exact ⟨⟨_, rfl⟩, .inr ⟨_, ⟨k + 1, by omega, hup.out.symm⟩, hJx3⟩⟩
    · have hjm : ¬ (j : Int) < (m : Int) := by have := HM.out; have := hj.out; omega
      have hfull := Lib.hid (take_all hlt)
      gi_wp2
      go_end0
      rw [hfull.out] at hJs
      first | exact ⟨⟨_, rfl⟩, .inl ⟨_, rfl, hJs⟩⟩ | exact ⟨⟨_, rfl⟩, .inl hJs⟩

theorem chunk_stops (FF : Fence) (n : Nat) (h7 : FF.fn 87) (hro : FF.round = none) (hn : 1 ≤ n) (Bs Bn g m cap q : Nat) (hm : m = q * 8) (hmc : m ≤ cap) (hcap : cap ≤ maxLen) (w : World) (hBs : Bs < w.heap.size) (hBn : Bn < w.heap.size)
    (hs : w.cell? ⟨Bs, 0, none⟩ = some (.slice (some ⟨g, 0, none⟩) m cap)) (he : w.cell? ⟨Bn, 0, none⟩ = some (.int .i64 8)) :
    SeqStopsK FF n Try.prog 87 #[.pointer (some ⟨Bs, 0, none⟩), .pointer (some ⟨Bn, 0, none⟩)] (fun x : Fin q => #[.slice (some ⟨g, x.1 * 8, none⟩) 8 8]) (KpB Bs Bn) (fun ys => ys = List.finRange q) (fun pre => ∃ k, k ≤ q ∧ pre = (List.finRange q).take k) q w := fun l J Jx W hW hJ _ hY h0 =>
  chunk1_in FF n h7 hro hn l Bs Bn g m cap q hm hmc hcap J Jx (fun pre W h => hJ pre W _ none h ⟨rfl, rfl, rfl, Nat.le_refl _, fun _ _ _ => rfl⟩ (fun r e => by cases e)) hY W
    ((hW.cell (p := ⟨Bs, 0, none⟩) hBs).trans hs) ((hW.cell (p := ⟨Bn, 0, none⟩) hBn).trans he) h0

theorem chunk_any (a : Option Addr) (len cap : Nat) (w : World) :
    Calls Try.prog 81 #[.slice a len cap, .int .i64 8] w fun e w' => e = .returned (.func (.func 87) #[] #[.pointer (some ⟨w.heap.size, 0, none⟩), .pointer (some ⟨w.heap.size + 1, 0, none⟩)]) ∧ w' = (w.alloc (.cells #[.slice a len cap] 22)).alloc (.cells #[.int .i64 8] 3) := by
  have hmf : ∀ (fn : Fn) (first cap : Array Value) (w : World), (Instr.makeFunc fn first cap).run Try.prog w = .ok (.func fn first cap) w := fun _ _ _ _ => rfl
  go_enter Try.func81, Try.ntmps81
  go_wp2
  go_ret
  exact ⟨rfl, rfl⟩
end Go.Proofs.Ytmljcbfpennjkaa
