/- From the frame to the statement's own. -/
import Derived.Test.YtebahglmdifmpaaVcM
import Derived.RowKit3
namespace Go.Proofs.Ytebahglmdifmpaa.Vc
open Go
theorem Fr.grownW {w w' : World} (h : Fr [] w w') : Go.RowKit.Grown w w' := by
  refine ⟨⟨h.os, h.output, fun i hi => ?_⟩, h.frozen, h.size⟩
  rw [h.block i hi (by simp)]
  cases w.heap[i]? with
  | none => rfl
  | some o =>
    cases o with
    | cells c t f => exact ⟨rfl, rfl, rfl, fun _ _ => rfl⟩
    | map es c => exact .inr ⟨rfl, rfl⟩
    | _ => rfl
end Go.Proofs.Ytebahglmdifmpaa.Vc
