/- CrewMerge: true, and what is handed in stays: of all parts and turns. -/
import Derived.Test.YtplndihadjfliaaRows
import Derived.Test.YtplndihadjfliaaM19
import Derived.Conc.LeavingOf
import Derived.ChangeShapes
import Derived.ChangeSlices
import Derived.ChangeArms
import Derived.Deep.Slices
import Derived.RowKit
import Derived.Carry
namespace Go.Proofs.Ytplndihadjfliaa.crewMerge
open Go.ChangeShapes Go.WideShapes Go.ChangeAt Go.RowKit Go.Conc Go.Deep
open Go.Proofs.Ytplndihadjfliaa.Mix (IR PR)
set_option linter.unusedVariables false
theorem own : ownKnob Try.checked.prog.godebug = none := by kernel_rfl
theorem laid : laidOutB Try.prog = true := by kernel_rfl
theorem cells3 : Try.prog.cellsOf 3 = 1 := by kernel_rfl
theorem bytes3 : Try.prog.bytesOf 3 = 8 := by kernel_rfl
theorem cells22 : Try.prog.cellsOf 22 = 1 := by kernel_rfl
theorem bytes22 : Try.prog.bytesOf 22 = 24 := by kernel_rfl

theorem add0 (a : Addr) : a.add 0 = a := by
  obtain ⟨b, o, s⟩ := a
  cases s <;> simp [Addr.add]
theorem weightsAll_mem {H : Type} {P : Program} {e : TypeId} : ∀ {l : List (DataW H)} {d : DataW H}, d ∈ l → ∀ n ∈ d.weights P e, n ∈ DataW.weightsAll P e l
  | d' :: r, d, hd, n, hn => by
    simp only [DataW.weightsAll, List.mem_append]
    rcases List.mem_cons.1 hd with rfl | h
    · exact Or.inl hn
    · exact Or.inr (weightsAll_mem h n hn)
theorem sized_inner {H : Type} {P : Program} {ts : List TypeId} {ds : List (DataW H)} (h : (DataW.weightsEach P ts ds).all (· ≤ reachBytes) = true) {j : Nat} {t e q : TypeId} {elems spare e' sp' : List (DataW H)}
    (ht : ts[j]? = some t) (hd : ds[j]? = some (.slice elems spare)) (hu : P.underlying t = some (.slice e)) (hu2 : P.underlying e = some (.slice q)) (hx : DataW.slice e' sp' ∈ elems) : (e'.length + sp'.length) * P.bytesOf q ≤ reachBytes := by
  refine of_decide_eq_true (List.all_eq_true.1 h _ (DataW.weights_mem_each ht hd _ ?_))
  simp only [DataW.weights, hu, List.mem_cons, List.mem_append]
  exact Or.inr (Or.inl (weightsAll_mem hx _ (by simp [DataW.weights, hu2])))

/-- Numbers, read. -/
theorem readT {H : Type} {enc : TypeId × Value → H} {W : World} {fuel : Nat} {cs : List Value} {x : DataW H × List MemPlace} (hf : DataW.trod enc Try.prog W 0 (fun _ => true) true fuel 22 cs = some x) :
    ∃ a0 cap zs, cs = [.slice a0 zs.length cap] ∧ IR [] a0 zs.length zs W ∧ (a0 = none → cap = 0) ∧ (zs = [] ∨ ∃ el sp, x.1 = .slice el sp ∧ zs.length ≤ el.length) := by
  rcases open_ints Try.underlying22 Try.underlying3 cells3 hf with ⟨hcs, hx⟩ | ⟨a, len', cap', zs, hcs, _, hl, hm, hz, hx, hcell, hwz⟩
  · exact ⟨none, 0, [], hcs, ⟨rfl, by simp, fun h => absurd h (by simp), fun a h => (by cases h), fun j a hj => absurd hj (by simp)⟩, fun _ => rfl, .inl rfl⟩
  · simp only [if_true] at hz
    have hlen : (zs.take len').length = len' := by rw [List.length_take]; omega
    refine ⟨some a, cap', zs.take len', by rw [hlen]; exact hcs, ⟨rfl, by simp only [maxLen] at hm; omega, fun _ => ⟨a, rfl⟩, fun _ _ _ => by simp, fun j b hj h => ?_⟩, fun h => (by cases h), .inr ⟨_, _, by rw [hx], by simp [lits]⟩⟩
    cases h
    rw [hlen] at hj
    rw [hcell j (by omega), List.getElem?_take, if_pos hj, List.getD_eq_getElem?_getD]
/-- Lists of numbers, read. -/
theorem readTT {H : Type} {enc : TypeId × Value → H} {W : World} {fuel : Nat} {cs : List Value} {x : DataW H × List MemPlace} (hf : DataW.trod enc Try.prog W 0 (fun _ => true) true fuel 28 cs = some x) (hs24 : ∀ el sp, x.1 = .slice el sp → (el.length + sp.length) * 24 ≤ reachBytes)
    (hs8 : ∀ el sp e' sp', x.1 = .slice el sp → DataW.slice e' sp' ∈ el → (e'.length + sp'.length) * 8 ≤ reachBytes) :
    ∃ qA cap M, ∃ (qa : Nat → Option Addr) (qc : Nat → Nat) (zs : Nat → List Int), cs = [.slice qA M cap] ∧ PR [] qA M qa (fun p => (zs p).length) qc zs W ∧ (∀ p, p < M → qa p = none → qc p = 0) ∧ (∀ p, p < M → (zs p).length * 8 ≤ reachBytes) ∧ M * 24 ≤ reachBytes := by
  rcases DataW.trod_slice Try.underlying28 hf with ⟨rfl, rfl⟩ | ⟨a, len, cap, elems, rest, n, rfl, rfl, rfl, hb, hl, hm, hlen, hel, hsp, hns⟩
  · exact ⟨none, 0, 0, fun _ => none, fun _ => 0, fun _ => [], rfl, ⟨by simp, fun h => absurd h (by simp), fun _ h => (by cases h), fun p _ hp => absurd hp (by simp), fun p hp => absurd hp (by simp)⟩, fun p hp => absurd hp (by simp), fun p hp => absurd hp (by simp), by simp⟩
  · have hz : ∀ i, i < len → ∃ q : Option Addr × Nat × List Int, W.cell? (a.add i) = some (.slice q.1 q.2.2.length q.2.1) ∧ IR [] q.1 q.2.2.length q.2.2 W ∧ (q.1 = none → q.2.1 = 0) ∧ q.2.2.length * 8 ≤ reachBytes := by
      intro i hi
      have he := hel i hi
      rw [List.getElem?_eq_getElem (by omega)] at he
      obtain ⟨es, c1, c2⟩ := Option.bind_eq_some_iff.1 he
      obtain ⟨_, l1, l2⟩ := World.cells?_some c1
      obtain ⟨a0, c0, zs, rfl, hi0, hn, hsz⟩ := readT c2
      have h0 := l2 0 (by rw [cells22]; exact Nat.one_pos)
      rw [cells22, Nat.mul_one, add0] at h0
      refine ⟨(a0, c0, zs), h0, hi0, hn, ?_⟩
      rcases hsz with rfl | ⟨el, sp, h1, h2⟩
      · exact Nat.zero_le _
      · have := hs8 (elems.map (·.1)) (rest.map (·.1)) el sp rfl (by rw [← h1]; exact List.mem_map_of_mem (List.getElem_mem _))
        simp only
        omega
    obtain ⟨q, hq⟩ := choose_lt hz
    refine ⟨some a, cap, len, fun p => (q p).1, fun p => (q p).2.1, fun p => (q p).2.2, rfl, ⟨by simp only [maxLen] at hm; omega, fun _ => ⟨a, rfl⟩, fun _ _ _ => by simp, fun p ad hp h => ?_, fun p hp => (hq p hp).2.1⟩, fun p hp => (hq p hp).2.2.1, fun p hp => (hq p hp).2.2.2, ?_⟩
    · cases h; exact (hq p hp).1
    · have := hs24 (elems.map (·.1)) (rest.map (·.1)) rfl
      simp only [List.length_map] at this
      omega
set_option maxRecDepth 100000 in
theorem lifted (os : Os) (started : os.Started) (H : Type) (enc : TypeId × Value → H) :
    ReturnsInLeavingWide {} Try.checked os 5 .any (Rows.crewMergeSpec.pre6 enc Try.prog Try.f5 Rows.crewMergeRow.domain false) (Rows.crewMergeSpec.post enc Try.prog Try.f5 false true false false) := by
  refine returnsInLeavingWide_of_change_sized (C := Try.checked) own started Try.func5
    (ChangeSpec.witness6 (enc := enc) (C := Try.checked) false ⟨#[], #[.slice none 0 0, .slice none 0 0], []⟩ 8 (by kernel_rfl) (by kernel_rfl) (by kernel_rfl) (by kernel_rfl)) ?_
  intro W base args ds gs before hval0 hW _ hsz0 _
  have hsz : (DataW.weightsEach Try.prog (Try.f5.params.toList ++ Rows.crewMergeSpec.plain.varTypes Try.prog) (ds ++ gs)).all (· ≤ reachBytes) = true := hsz0
  clear hsz0
  have hval : ∀ (j : Nat) t v, Try.f5.params[j]? = some t → args[j]? = some v → Value.okWide Try.prog W .any base t v := hval0
  have hW' := hW
  obtain ⟨p, q, hA0, hV, rfl, _, _⟩ := hW
  have hA : DataW.TrodAll enc Try.prog W 0 (fun _ => true) true Try.f5.params.toList args.toList ds p := hA0
  rw [Try.params5] at hA hval hsz
  obtain ⟨v0, v1, d0, d1, p0, p1, rfl, rfl, rfl, h0, h1⟩ := trodAll_two hA
  obtain ⟨rfl, rfl⟩ := trodVars_none hV
  simp only [List.append_nil] at hW'
  have hlt : ∀ x ∈ p0 ++ p1, x.block < W.heap.size := fun x hx => by simpa using hW'.lt x hx
  obtain ⟨qA, M0, cap, rfl⟩ := okWide_slice Try.underlying28 (hval 0 28 v0 rfl rfl)
  obtain ⟨uA, n0, capb, rfl⟩ := okWide_slice Try.underlying22 (hval 1 22 v1 rfl rfl)
  have h0k := h0
  have h1k := h1
  obtain ⟨fuel0, hf0⟩ := h0
  obtain ⟨fuel1, hf1⟩ := h1
  have hr : reachBytes = 140737488351232 := rfl
  obtain ⟨qA', cap', M, qa, qc, zs, e0, hQ, hpc, hp8, hM24⟩ := readTT hf0 (fun el sp e => by
    have := sized_slice hsz (j := 0) (t := 28) (e := 22) rfl (by rw [← e]; rfl) Try.underlying28
    rwa [bytes22] at this) (fun el sp e' sp' e hx => by
    have := sized_inner hsz (j := 0) (t := 28) (e := 22) (q := 3) rfl (by rw [← e]; rfl) Try.underlying28 Try.underlying22 hx
    rwa [bytes3] at this)
  obtain ⟨uA', capb', es, e1, hU, huc, hsz1⟩ := readT hf1
  have e0 : qA = qA' ∧ M0 = M ∧ cap = cap' := by simpa [Value.cells] using e0
  have e1 : uA = uA' ∧ n0 = es.length ∧ capb = capb' := by simpa [Value.cells] using e1
  obtain ⟨rfl, rfl, rfl⟩ := e0
  obtain ⟨rfl, rfl, rfl⟩ := e1
  have hm : es.length * 8 ≤ reachBytes := by
    rcases hsz1 with rfl | ⟨el, sp, h1, h2⟩
    · exact Nat.zero_le _
    · have := sized_slice hsz (j := 1) (t := 22) (e := 3) rfl (by rw [← h1]; rfl) Try.underlying22
      rw [bytes3] at this
      omega
  have hargs : ∀ (W' : World), Below W.heap.size W W' → DataW.TrodAll enc Try.prog W' 0 (fun b => decide (b < W.heap.size)) true [28, 22] [.slice qA M0 cap, .slice uA es.length capb] [d0, d1] (p0 ++ p1) :=
    fun W' hn => trodAll_mk2 (Below.trod laid (by kernel_rfl) (of_decide_eq_true (by kernel_rfl)) h0k hn (fun x hx => hlt x (by simp [hx]))) (Below.trod laid (by kernel_rfl) (of_decide_eq_true (by kernel_rfl)) h1k hn (fun x hx => hlt x (by simp [hx])))
  obtain ⟨n, last, o, w', t', g1, g2, g3, g4⟩ := Go.Proofs.Ytplndihadjfliaa.Mix.cm_runs W qA uA M0 cap capb zs es hQ hpc (fun p hp => by have := hp8 p hp; omega) (by omega) hU huc (by omega)
  refine ⟨n, last, o, w', t', g1, g2, g3, g4.mono fun v hv => ?_⟩
  obtain ⟨rfl, hb⟩ := hv
  exact ⟨[d0, d1], [], _, [], p0 ++ p1, [], by simpa using hW', trodAll_mk1 (shut_bool (by kernel_rfl) _), hargs _ hb, rfl, hb.frame _, fun h => by cases h⟩
theorem proved : Rows.CrewMergeSaid :=
  OpenClaim.holds_of_wide_leaving 5 Try.f5 rfl rfl rfl rfl rfl rfl rfl ⟨rfl, rfl, rfl, rfl, rfl⟩ rfl rfl rfl rfl rfl (by kernel_rfl) Try.func5 (by kernel_rfl)
    (of_decide_eq_true (by kernel_rfl)) (by unfold Func.isWrapper; first | (rw [if_pos (by decide +kernel)]; kernel_rfl) | (rw [if_neg (by decide +kernel)]; exact ⟨rfl, rfl⟩))
    (fun os started H enc _ => lifted os started H enc)
end Go.Proofs.Ytplndihadjfliaa.crewMerge
namespace Go.Proofs.Ytplndihadjfliaa
theorem crewMerge_holds : Rows.CrewMergeSaid := crewMerge.proved
#print axioms crewMerge_holds
end Go.Proofs.Ytplndihadjfliaa
