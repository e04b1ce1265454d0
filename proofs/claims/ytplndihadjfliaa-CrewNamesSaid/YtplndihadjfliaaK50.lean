/- CrewNames: true (closed): the limits have their numbers; two numbers go along a row. -/
import Derived.Test.YtplndihadjfliaaRows
import Derived.Test.YtplndihadjfliaaM6
import Derived.Conc.LeavingOf
import Derived.ChangeShapes
import Derived.RowKit
namespace Go.Proofs.Ytplndihadjfliaa.crewNames
open Go.ChangeShapes Go.WideShapes Go.ChangeAt Go.RowKit Go.Conc
set_option linter.unusedVariables false
theorem own : ownKnob Try.checked.prog.godebug = none := by kernel_rfl
set_option maxRecDepth 100000 in
theorem lifted (os : Os) (started : os.Started) (H : Type) (enc : TypeId × Value → H) :
    ReturnsInLeavingWide {} Try.checked os 3 .any (Rows.crewNamesSpec.pre6 enc Try.prog Try.f3 Rows.crewNamesRow.domain false) (Rows.crewNamesSpec.post enc Try.prog Try.f3 false true false false) := by
  refine returnsInLeavingWide_of_change_sized (C := Try.checked) own started Try.func3
    (ChangeSpec.witness6 (enc := enc) (C := Try.checked) false ⟨#[], #[], []⟩ 8 (by kernel_rfl) (by kernel_rfl) (by kernel_rfl) (by kernel_rfl)) ?_
  intro W base args ds gs before hval0 hW _ _ _
  have hW' := hW
  obtain ⟨p, q, hA0, hV, rfl, _, _⟩ := hW
  have hA : DataW.TrodAll enc Try.prog W 0 (fun _ => true) true Try.f3.params.toList args.toList ds p := hA0
  rw [Try.params3] at hA
  obtain ⟨rfl, rfl, rfl⟩ := trodAll_none hA
  obtain ⟨rfl, rfl⟩ := trodVars_none hV
  obtain ⟨M, last, o, w', t', h1, h2, h3, h4⟩ := Go.Proofs.Ytplndihadjfliaa.Net.cn_runs W
  refine ⟨M, last, o, w', t', h1, h2, h3, h4.mono fun v hv => ?_⟩
  obtain ⟨rfl, hb⟩ := hv
  exact ⟨_, _, _, [], [], [], hW', trodAll_mk1 (shut_bool (by kernel_rfl) _), trodAll_mk0, rfl, hb.frame _, fun h => by cases h⟩
theorem proved : Rows.CrewNamesSaid :=
  OpenClaim.holds_of_wide_leaving 3 Try.f3 rfl rfl rfl rfl rfl rfl rfl ⟨rfl, rfl, rfl, rfl, rfl⟩ rfl rfl rfl rfl rfl (by kernel_rfl) Try.func3 (by kernel_rfl)
    (of_decide_eq_true (by kernel_rfl)) (by unfold Func.isWrapper; first | (rw [if_pos (by decide +kernel)]; kernel_rfl) | (rw [if_neg (by decide +kernel)]; exact ⟨rfl, rfl⟩))
    (fun os started H enc _ => lifted os started H enc)
end Go.Proofs.Ytplndihadjfliaa.crewNames
namespace Go.Proofs.Ytplndihadjfliaa
theorem crewNames_holds : Rows.CrewNamesSaid := crewNames.proved
#print axioms crewNames_holds
end Go.Proofs.Ytplndihadjfliaa
