/- Proved: FnThinned: whatever the input, the law returns true, and the argument reads behind the call as before; the card. Conditions: the row's own (the listed variables are laid). -/
import Derived.Test.YtaimckepaldocaaGreatDoorRows
import Derived.Test.YtaimckepaldocaaGreatDoorWFnThinned
import Derived.Test.YtaimckepaldocaaGreatDoorOpen
import Derived.Test.YtaimckepaldocaaGreatDoorOpenY
import Derived.WalkKit
import Derived.ProofKit
import Derived.OpenShut
import Derived.ShutString
import Derived.ChangeOld
import Derived.Below
import Derived.Deep.Slices
import Derived.Deep.Fields
import Derived.ChangeSame
import Derived.Lib.SmallJoins
import Derived.LaidMore
import Derived.Lay
import Derived.Lib.LaidTab
import Derived.Stop.LaidErr
import Derived.Stop.Joined
namespace Go.Proofs.YtaimckepaldocaaGreatDoor.fnThinned
open Go.ChangeShapes Go.WideShapes Go.ChangeAt Go.RowKit Go.Deep Go.Joins
set_option linter.unusedVariables false

theorem own : ownKnob Tryz.prog.godebug = none := by kernel_rfl
theorem laidOut : laidOutB Tryz.prog = true := by kernel_rfl
theorem gTab : Tryz.prog.globalNamed "internal/strconv.uint64pow10" = some 1 := by kernel_rfl
theorem gTabT : (Tryz.prog.globals[1]?).map (·.type) = some 136 := by kernel_rfl
theorem gSyn : Tryz.prog.globalNamed "strconv.ErrSyntax" = some 4 := by kernel_rfl
theorem gSynT : (Tryz.prog.globals[4]?).map (·.type) = some 77 := by kernel_rfl
theorem gRan : Tryz.prog.globalNamed "strconv.ErrRange" = some 5 := by kernel_rfl
theorem gRanT : (Tryz.prog.globals[5]?).map (·.type) = some 77 := by kernel_rfl
theorem cells97 : Tryz.prog.cellsOf 97 = 1 := by kernel_rfl
theorem cells136 : Tryz.prog.cellsOf 136 = 20 := by kernel_rfl
theorem cells153 : Tryz.prog.cellsOf 153 = 1 := by kernel_rfl
theorem cells9 : Tryz.prog.cellsOf 9 = 1 := by kernel_rfl
theorem star : "*" ++ "errors.errorString" = "*errors.errorString" := by decide
theorem row151 (u : TypeId) (h : Tryz.prog.typeName? 3 u = some "*errors.errorString") : u = 151 :=
  typeName_ptr_named (nm := "errors.errorString") (by rw [star]; kernel_rfl) (by kernel_rfl) (by decide) u (by rw [star]; exact h)

theorem gv_of {W : World} (hsh : W.ShapedOpen Tryz.prog) (h : laidMetH Tryz.prog Rows.fnThinnedRow.laid W) : GV W := by
  rw [MakeChecks.laidMetH_plain _ _ _ (by kernel_rfl)] at h
  have h2 : laidMet Tryz.prog (("internal/strconv.uint64pow10", Go.Lib.tabData .u64 Go.Lib.pow10Tab) :: _) W := h.tail.tail
  have hR := h.tail.tail.tail.tail
  have hS := h.tail.tail.tail.tail.tail
  obtain ⟨a0, s0, hv0, _, _, _⟩ := laid_sentinel hR gRan gRanT Tryz.underlying77 row151 Tryz.underlying151 Tryz.underlying153 rfl rfl Tryz.underlying9 cells153 cells9
  obtain ⟨a1, s1, hv1, _, _, _⟩ := laid_sentinel hS gSyn gSynT Tryz.underlying77 row151 Tryz.underlying151 Tryz.underlying153 rfl rfl Tryz.underlying9 cells153 cells9
  have c1 : W.cell? ⟨4, 0, none⟩ = some (.iface 151 (.pointer (some a1))) := by simpa using World.var?_cell gSyn hv1 0
  have c0 : W.cell? ⟨5, 0, none⟩ = some (.iface 151 (.pointer (some a0))) := by simpa using World.var?_cell gRan hv0 0
  exact ⟨Go.Lib.tabIs_of_head gTab gTabT Tryz.underlying136 Tryz.underlying97 cells97 cells136 h2, laysM146.s1_3 W hsh, ⟨_, c1, .inr ⟨151, .pointer (some a1), rfl⟩⟩, ⟨_, c0, .inr ⟨151, .pointer (some a0), rfl⟩⟩⟩

set_option maxRecDepth 100000 in
theorem witness (os : Os) (H : Type) (enc : TypeId × Value → H) :
    ∃ (w : World) (tape : Tape) (i : Input), w.os = os ∧ (w.forCall tape i).Shaped Tryz.prog ∧ i.vars = [] ∧ Input.okWide Tryz.prog (w.forCall tape i) .any w.heap.size 3 i ∧
      ((Rows.fnThinnedSpec.pre enc Tryz.prog Tryz.f3 Rows.fnThinnedRow.domain false (w.forCall tape i).memory i.args ∧ laidMetH Tryz.prog Rows.fnThinnedRow.laid (w.forCall tape i).memory) ∧ sizedMet enc Tryz.prog Tryz.f3 (OpenSpec.ofChange Rows.fnThinnedSpec) false (w.forCall tape i).memory i.args) ∧ ({} : Assume).holds Tryz.prog (lone (Frame.enter Tryz.prog 3 i.args .normal) [] (w.forCall tape i)) :=
  ChangeSpec.witness_shaped (enc := enc) (C := Tryz.checked) (os := os) (X := fun w _ => laidMetH Tryz.prog Rows.fnThinnedRow.laid w) false (World.laidAll Tryz.prog os Rows.fnThinnedRow.laid) #[.slice none 0 0] 8 (World.laidAll_os _ _ _)
    (World.shaped_of_ZipB (by kernel_rfl) (by kernel_rfl)) (by kernel_rfl) (by kernel_rfl) (by kernel_rfl)
    (by rw [MakeChecks.laidMetH_plain _ _ _ (by kernel_rfl)]; exact laidMet_laidAll _ (by kernel_rfl) (by kernel_rfl))

set_option maxRecDepth 100000 in
theorem lifted (os : Os) (started : os.Started) (H : Type) (enc : TypeId × Value → H) :
    ReturnsInHanded {} Tryz.checked os 3 .any (fun w args => (Rows.fnThinnedSpec.pre enc Tryz.prog Tryz.f3 Rows.fnThinnedRow.domain false w args ∧ laidMetH Tryz.prog Rows.fnThinnedRow.laid w) ∧ sizedMet enc Tryz.prog Tryz.f3 (OpenSpec.ofChange Rows.fnThinnedSpec) false w args)
      (Rows.fnThinnedSpec.post enc Tryz.prog Tryz.f3 false true false false) := by
  refine returnsInHanded_of_calls (C := Tryz.checked) own started (by kernel_rfl) (witness os H enc) ?_
  intro w tape i _ hsh _ hok hpre hholds
  obtain ⟨_, _, _, fn', hfn', _, _, _, _, hval1⟩ := hok
  obtain rfl : fn' = Tryz.f3 := Option.some.inj (hfn'.symm.trans Tryz.func3)
  obtain ⟨⟨⟨ds, gs, before, hw, hc⟩, hx⟩, hz⟩ := hpre
  have hw1 := DataW.Whole.of_heap (w' := w.forCall tape i) (by rfl) hw
  have hL : laidMetH Tryz.prog Rows.fnThinnedRow.laid (w.forCall tape i) := hx.of_heap (by rfl)
  have hgv := gv_of hsh hL
  suffices goal : Calls Tryz.prog 3 i.args (w.forCall tape i) fun e W' => ∃ v, e = .returned v ∧ Rows.fnThinnedSpec.post enc Tryz.prog Tryz.f3 false true false false (w.forCall tape i) i.args v W' by
    refine goal.mono fun e W' ⟨v, he, hp⟩ => ?_
    subst he
    exact ChangeSpec.post_blind hp
  revert hval1 hw1 hgv
  generalize w.forCall tape i = W
  generalize i.args = args
  generalize w.heap.size = base
  intro hval0 hW hgv
  have hval : ∀ (j : Nat) t v, Tryz.f3.params[j]? = some t → args[j]? = some v → Value.okWide Tryz.prog W .any base t v := hval0
  have hW' := hW
  obtain ⟨p, q, hA0, hV, rfl, hfz, hnd⟩ := hW
  have hA : DataW.TrodAll enc Tryz.prog W 0 (fun _ => true) true Tryz.f3.params.toList args.toList ds p := hA0
  rw [Tryz.params3] at hA hval
  obtain ⟨v0, vs0, d0, ds0, p0, q0, hargs, rfl, rfl, h0, r0⟩ := trodAll_cons hA
  obtain ⟨rfl, rfl, rfl⟩ := trodAll_nil r0
  obtain rfl : args = #[v0] := by cases args; simp_all
  obtain ⟨rfl, rfl⟩ := trodVars_none hV
  have k0 := h0
  have lt0 : ∀ x ∈ p0, x.block < W.heap.size := by obtain ⟨m, hm⟩ := k0; exact DataW.trod_lt m _ _ _ hm
  obtain ⟨a0, n0, c0, rfl⟩ := okWide_slice Tryz.underlying22 (hval 0 22 v0 rfl rfl)
  obtain ⟨xs0, w0⟩ : ∃ xs, Bytes W a0 n0 xs := by
    obtain ⟨fuel, hf⟩ := h0
    exact bytes_of (open_ints Tryz.underlying22 Tryz.underlying5 (by kernel_rfl) hf)
  clear hA0 hval0
  refine (walk a0 n0 c0 xs0 W w0 hgv).mono fun e W' ⟨he, bel⟩ => ?_
  subst he
  exact ⟨_, rfl, _, _, _, [], _, [], hW', trodAll_mk1 (shut_bool Tryz.underlying4 _), (trodAll_cons_mk (Below.trod laidOut (by kernel_rfl) (of_decide_eq_true (by kernel_rfl)) k0 bel lt0) trodAll_mk0), rfl, bel.frame _, fun h => by cases h⟩

theorem over : Rows.fnThinnedRow.holds Tryz.pinned (OpenSpec.ofChange Rows.fnThinnedSpec) :=
  OpenClaim.holds_of_wide 3 Tryz.f3 rfl rfl rfl rfl rfl rfl rfl ⟨rfl, rfl, rfl, rfl, rfl⟩ rfl rfl rfl rfl rfl (by kernel_rfl) Tryz.func3 (by kernel_rfl)
    (of_decide_eq_true (by kernel_rfl)) (by unfold Func.isWrapper; first | (rw [if_pos (by decide +kernel)]; kernel_rfl) | (rw [if_neg (by decide +kernel)]; exact ⟨rfl, rfl⟩))
    (fun os started H enc _ => lifted os started H enc)
end Go.Proofs.YtaimckepaldocaaGreatDoor.fnThinned
