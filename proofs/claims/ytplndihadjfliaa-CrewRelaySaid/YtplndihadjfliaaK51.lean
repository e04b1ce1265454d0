/- CrewRelay: true, and what is handed in stays: of all values and adds. -/
import Derived.Test.YtplndihadjfliaaRows
import Derived.Test.YtplndihadjfliaaM8
import Derived.Conc.LeavingOf
import Derived.ChangeShapes
import Derived.ChangeSlices
import Derived.RowKit
import Derived.Carry
namespace Go.Proofs.Ytplndihadjfliaa.crewRelay
open Go.ChangeShapes Go.WideShapes Go.ChangeAt Go.RowKit Go.Conc
set_option linter.unusedVariables false
theorem own : ownKnob Try.checked.prog.godebug = none := by kernel_rfl
theorem laid : laidOutB Try.prog = true := by kernel_rfl
theorem cells3 : Try.prog.cellsOf 3 = 1 := by kernel_rfl
theorem bytes3 : Try.prog.bytesOf 3 = 8 := by kernel_rfl

/-- A slice of numbers that is handed in, read. -/
theorem read {H : Type} {enc : TypeId × Value → H} {W : World} {base : Nat} {v : Value} {d : DataW H} {p : List MemPlace} (hv : Value.okWide Try.prog W .any base 22 v) (h : DataW.Trod enc Try.prog W 0 (fun _ => true) true 22 v d p)
    (hs : ∀ elems spare, d = .slice elems spare → (elems.length + spare.length) * 8 ≤ reachBytes) :
    ∃ a0 cap zs, v = .slice a0 zs.length cap ∧ Go.Proofs.Ytplndihadjfliaa.Net.IR [] a0 zs.length zs W ∧ (a0 = none → cap = 0) ∧ (∀ x ∈ zs, (Lit.int .i64 x).wf = true) ∧ zs.length * 8 ≤ reachBytes := by
  obtain ⟨a0, len, cap, rfl⟩ := okWide_slice Try.underlying22 hv
  obtain ⟨fuel, hf⟩ := h
  rcases open_ints Try.underlying22 Try.underlying3 cells3 hf with ⟨hcs, hx⟩ | ⟨a, len', cap', zs, hcs, _, hl, hm, hz, hx, hcell, hwz⟩
  · simp [Value.cells] at hcs
    obtain ⟨rfl, rfl, rfl⟩ := hcs
    exact ⟨none, 0, [], rfl, ⟨rfl, by simp, fun h => absurd h (by simp), fun a h => (by cases h), fun j a hj => absurd hj (by simp)⟩, fun _ => rfl, by simp, by simp⟩
  · simp [Value.cells] at hcs
    obtain ⟨rfl, rfl, rfl⟩ := hcs
    simp only [Prod.mk.injEq] at hx
    obtain ⟨rfl, rfl⟩ := hx
    simp only [if_true] at hz
    have hlen : (zs.take len).length = len := by rw [List.length_take]; omega
    refine ⟨some a, cap, zs.take len, by rw [hlen], ⟨rfl, by simp only [maxLen] at hm; omega, fun _ => ⟨a, rfl⟩, fun _ _ _ => by simp, fun j b hj h => ?_⟩, fun h => (by cases h), fun x hx => hwz x (List.mem_of_mem_take hx), ?_⟩
    · cases h
      rw [hlen] at hj
      rw [hcell j (by omega), List.getElem?_take, if_pos hj, List.getD_eq_getElem?_getD]
    · have := hs _ _ rfl
      simp only [lits, List.length_map] at this
      omega
set_option maxRecDepth 100000 in
theorem lifted (os : Os) (started : os.Started) (H : Type) (enc : TypeId × Value → H) :
    ReturnsInLeavingWide {} Try.checked os 4 .any (Rows.crewRelaySpec.pre6 enc Try.prog Try.f4 Rows.crewRelayRow.domain false) (Rows.crewRelaySpec.post enc Try.prog Try.f4 false true false false) := by
  refine returnsInLeavingWide_of_change_sized (C := Try.checked) own started Try.func4
    (ChangeSpec.witness6 (enc := enc) (C := Try.checked) false ⟨#[], #[.slice none 0 0, .slice none 0 0], []⟩ 8 (by kernel_rfl) (by kernel_rfl) (by kernel_rfl) (by kernel_rfl)) ?_
  intro W base args ds gs before hval0 hW _ hsz0 _
  have hsz : (DataW.weightsEach Try.prog (Try.f4.params.toList ++ Rows.crewRelaySpec.plain.varTypes Try.prog) (ds ++ gs)).all (· ≤ reachBytes) = true := hsz0
  clear hsz0
  have hval : ∀ (j : Nat) t v, Try.f4.params[j]? = some t → args[j]? = some v → Value.okWide Try.prog W .any base t v := hval0
  have hW' := hW
  obtain ⟨p, q, hA0, hV, rfl, _, _⟩ := hW
  have hA : DataW.TrodAll enc Try.prog W 0 (fun _ => true) true Try.f4.params.toList args.toList ds p := hA0
  rw [Try.params4] at hA hval hsz
  obtain ⟨v0, v1, d0, d1, p0, p1, rfl, rfl, rfl, h0, h1⟩ := trodAll_two hA
  obtain ⟨rfl, rfl⟩ := trodVars_none hV
  simp only [List.append_nil] at hW'
  have hlt : ∀ x ∈ p0 ++ p1, x.block < W.heap.size := fun x hx => by simpa using hW'.lt x hx
  obtain ⟨a0, cap, zs, rfl, hI0, hca, hz, hn⟩ := read (hval 0 22 v0 rfl rfl) h0 (fun el sp e => by
    have := sized_slice hsz (j := 0) (t := 22) (e := 3) rfl (by rw [e]; rfl) Try.underlying22
    rwa [bytes3] at this)
  obtain ⟨b0, capb, es, rfl, hI1, hcb, _, hm⟩ := read (hval 1 22 v1 rfl rfl) h1 (fun el sp e => by
    have := sized_slice hsz (j := 1) (t := 22) (e := 3) rfl (by rw [e]; rfl) Try.underlying22
    rwa [bytes3] at this)
  have hargs : ∀ (W' : World), Below W.heap.size W W' → DataW.TrodAll enc Try.prog W' 0 (fun b => decide (b < W.heap.size)) true [22, 22] [.slice a0 zs.length cap, .slice b0 es.length capb] [d0, d1] (p0 ++ p1) :=
    fun W' hn => trodAll_mk2 (Below.trod laid (by kernel_rfl) (of_decide_eq_true (by kernel_rfl)) h0 hn (fun x hx => hlt x (by simp [hx]))) (Below.trod laid (by kernel_rfl) (of_decide_eq_true (by kernel_rfl)) h1 hn (fun x hx => hlt x (by simp [hx])))
  have hr : reachBytes = 140737488351232 := rfl
  obtain ⟨M, last, o, w', t', g1, g2, g3, g4⟩ := Go.Proofs.Ytplndihadjfliaa.Net.cr_runs W a0 b0 cap capb zs es hI0 hI1 hca hcb (by omega) (by omega) hz
  refine ⟨M, last, o, w', t', g1, g2, g3, g4.mono fun v hv => ?_⟩
  obtain ⟨rfl, hb⟩ := hv
  exact ⟨[d0, d1], [], _, [], p0 ++ p1, [], by simpa using hW', trodAll_mk1 (shut_bool (by kernel_rfl) _), hargs _ hb, rfl, hb.frame _, fun h => by cases h⟩
theorem proved : Rows.CrewRelaySaid :=
  OpenClaim.holds_of_wide_leaving 4 Try.f4 rfl rfl rfl rfl rfl rfl rfl ⟨rfl, rfl, rfl, rfl, rfl⟩ rfl rfl rfl rfl rfl (by kernel_rfl) Try.func4 (by kernel_rfl)
    (of_decide_eq_true (by kernel_rfl)) (by unfold Func.isWrapper; first | (rw [if_pos (by decide +kernel)]; kernel_rfl) | (rw [if_neg (by decide +kernel)]; exact ⟨rfl, rfl⟩))
    (fun os started H enc _ => lifted os started H enc)
end Go.Proofs.Ytplndihadjfliaa.crewRelay
namespace Go.Proofs.Ytplndihadjfliaa
theorem crewRelay_holds : Rows.CrewRelaySaid := crewRelay.proved
#print axioms crewRelay_holds
end Go.Proofs.Ytplndihadjfliaa
