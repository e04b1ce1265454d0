/- Integers that are handed in are within their kind. -/
import Derived.Test.YtebahglmdifmpaaT1
set_option linter.unusedVariables false
namespace Go.Proofs.Ytebahglmdifmpaa.Vc
open Go Go.Deep Go.ChangeShapes Go.WideShapes
theorem wf_i64 {z : Int} (h : (Lit.int .i64 z).wf = true) : -9223372036854775808 ≤ z ∧ z ≤ 9223372036854775807 := by
  have h2 : (decide (IntKind.min .i64 ≤ z) && decide (z ≤ IntKind.max .i64)) = true := h
  simp [IntKind.min, IntKind.max, IntKind.signed, IntKind.bits] at h2
  omega
theorem In.intsB {w : World} {A : Option Addr} {n c : Nat} {l : List Int} {F : List Nat} (h : In w (.sl (.int .i64)) [.slice A n c] l F) : ∀ z ∈ l, -9223372036854775808 ≤ z ∧ z ≤ 9223372036854775807 := by
  intro z hz
  obtain ⟨i, hi, rfl⟩ := List.mem_iff_getElem.1 hz
  obtain ⟨h1, _, h2⟩ := h.elems
  have hi' : i < l.length := hi
  obtain ⟨b, o, _, h3⟩ := h2 (by omega)
  obtain ⟨es, G, _, _, ⟨_, h4, _⟩, _⟩ := h3 i hi
  exact wf_i64 h4
end Go.Proofs.Ytebahglmdifmpaa.Vc
