/- The costs that the store tells of a check and of a write are the document's, of all numbers: no conditions. -/
import Derived.Test.YthhajkmoafmdlaaPStoreCostsx1
import Derived.OpenShut
namespace Go.Proofs.Ythhajkmoafmdlaa.Pure
open Go.RowKit Go.Proofs.Ythhajkmoafmdlaa.PStoreCosts Go.Proofs.YthhajkmoafmdlaaW.PrintWords Go.Proofs.YthhajkmoafmdlaaW.PrintLast

theorem wrap_self {n : Int} (h : (Lit.int .i64 n).wf = true) : wrap64 n = n := by
  have hb := bounds_i64 h
  unfold wrap64
  omega

theorem mx_zero {n : Int} (h : (Lit.int .i64 n).wf = true) : gatehouseref25_above.f n 0 = some (mx n 0) := by
  have hw := wrap_self h
  unfold gatehouseref25_above.f
  by_cases c : n ≤ 0
  · rw [if_pos c]; unfold mx; congr 1; omega
  · rw [if_neg c]
    have e : n - 0 = n := by omega
    rw [e, hw]; unfold mx; congr 1; omega

theorem check_same (n : Int) : store_CheckSteps.f n = gatehouseref25_CheckSteps.f n := by
  unfold store_CheckSteps.f gatehouseref25_CheckSteps.f gatehouseref25_above.f
  by_cases c : n < 4
  · rw [if_pos c, if_pos (by omega)]
    simp [wrap64]
  · rw [if_neg c]
    by_cases d : n ≤ 4
    · have e : n = 4 := by omega
      subst e
      simp [wrap64]
    · rw [if_neg d]; rfl

theorem check_some (n : Int) : ∃ r, gatehouseref25_CheckSteps.f n = some r := by
  unfold gatehouseref25_CheckSteps.f gatehouseref25_above.f
  by_cases c : n ≤ 4
  · rw [if_pos c]; exact ⟨_, rfl⟩
  · rw [if_neg c]; exact ⟨_, rfl⟩

theorem StoreCosts : gatehouselaw25_StoreCosts.Pure := by
  intro a b ha hb
  unfold gatehouselaw25_StoreCosts.f
  obtain ⟨r, hr⟩ := check_some a
  rw [check_same, hr]
  simp only [Option.bind_some, if_true]
  unfold store_WriteSteps.f gatehouseref25_WriteSteps.f
  rw [mx_zero ha, mx_zero hb]
  simp

end Go.Proofs.Ythhajkmoafmdlaa.Pure
