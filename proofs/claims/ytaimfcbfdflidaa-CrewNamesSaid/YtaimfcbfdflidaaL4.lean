/-
  CrewNames: the row.
-/
import Derived.Test.YtaimfcbfdflidaaRows
import Derived.Test.YtaimfcbfdflidaaL3
import Derived.Test.YtaimfcbfdflidaaL0
import Derived.Conc.HoldsTime
import Derived.ProofKit
namespace Go.Proofs.Ytaimfcbfdflidaa.crewNames
set_option linter.unusedVariables false
set_option linter.unusedSimpArgs false
open Go.ChangeShapes Go.WideShapes Go.ChangeAt Go.RowKit Go.Conc Go.ConcM
theorem own : ownKnob Try.prog.godebug = none := by kernel_rfl
set_option maxRecDepth 100000 in
theorem lifted (os : Os) (started : os.Started) (H : Type) (enc : TypeId × Value → H) (F : Stop.Interp) :
    ReturnsInLeavingWide Rows.crewNamesRow.assume Try.checked os 3 .any (Rows.crewNamesSpec.pre6 enc Try.prog Try.f3 Rows.crewNamesRow.domain false) ((OpenSpec.ofChange Rows.crewNamesSpec).postWith enc Try.prog Try.f3 F (outsideKept [.timePasses]) false true false) := by
  refine leaving_of_calls (C := Try.checked) own started (by kernel_rfl)
    (ChangeSpec.witness6c (enc := enc) (C := Try.checked) ⟨#[], #[], []⟩ 8 (by kernel_rfl) (by kernel_rfl) (by kernel_rfl) (by kernel_rfl)) ?_
  intro w tape i _ _ _ _ hpre _
  obtain ⟨⟨ds, gs, before, hW, _⟩, _⟩ := hpre
  have hw := DataW.Whole.of_heap (w' := w.forCall tape i) (by rfl) hW
  have hw' := hw
  obtain ⟨p, q, hA0, hV, rfl, _, _⟩ := hw
  have hA : DataW.TrodAll enc Try.prog (w.forCall tape i) 0 (fun _ => true) true Try.f3.params.toList i.args.toList ds p := hA0
  rw [Try.params3] at hA
  obtain ⟨hargs, rfl, rfl⟩ := trodAll_none hA
  obtain ⟨rfl, rfl⟩ := trodVars_none hV
  rw [hargs] at hw' ⊢
  generalize w.forCall tape i = W at hw' ⊢
  refine (crewNames_any W).mono fun e W' ⟨he, bel⟩ => ?_
  subst he
  have hbel : Below W.heap.size W { W' with os := W.os } := ⟨rfl, bel.tape, bel.output, bel.size, bel.block⟩
  refine postWith_blind (postWith_of_post ?_ ⟨0, by rw [bel.os]; rfl⟩)
  exact ⟨_, _, _, [], [], [], hw', trodAll_mk1 (shut_bool Try.underlying4 _), trodAll_mk0, rfl, hbel.frame _, fun h => by cases h⟩
theorem said : Rows.CrewNamesSaid :=
  OpenClaim.holds_of_wide_leaving_time 3 Try.f3 rfl rfl rfl rfl rfl rfl rfl ⟨rfl, rfl, rfl, rfl, rfl⟩ rfl rfl rfl rfl rfl (by kernel_rfl) Try.func3 (by kernel_rfl)
    (of_decide_eq_true (by kernel_rfl)) (by unfold Func.isWrapper; first | (rw [if_pos (by decide +kernel)]; kernel_rfl) | (rw [if_neg (by decide +kernel)]; exact ⟨rfl, rfl⟩))
    (fun os started H enc _ F => lifted os started H enc F)
end Go.Proofs.Ytaimfcbfdflidaa.crewNames
namespace Go.Proofs.Ytaimfcbfdflidaa
theorem crewNames_said : Rows.CrewNamesSaid := crewNames.said
end Go.Proofs.Ytaimfcbfdflidaa
#print axioms Go.Proofs.Ytaimfcbfdflidaa.crewNames_said
