/- slices.Sorted(maps.Keys(m)) on a map of numbers: a new list of its keys, rising. -/
import Derived.Test.YtebahglmdifmpaaY0
import Derived.Test.YtebahglmdifmpaaA6
import Derived.Shelf.SlIterI.Nil
import Derived.Shelf.SlIterI.Sorted
import Derived.Shelf.SortM.Plain
import Derived.Shelf.SortM.SortNone
set_option linter.unusedVariables false
set_option linter.unusedSimpArgs false
set_option maxRecDepth 10000
namespace Go.Proofs.Ytebahglmdifmpaa
open Go Go.Maps Go.Sort Go.Shelf Go.RowKit Go.WideShapes Go.Proofs.Ytebahglmdifmpaa.Vc
namespace PA
theorem sortsA (m : Nat) : Go.Proofs.AnyZI.SortsIn Try.prog Lay.sortedA_ren Fence.wide m :=
  ⟨fun blk off cap ss W hH hblk hsz => callsIn_wide.2 (Go.Proofs.AnyM.slices_Sort_int Lay.sortA blk off cap ss W hH hblk hsz),
   fun p cap W => callsIn_wide.2 (Go.Proofs.AnyM.slices_Sort_int_none Lay.sortA p cap W)⟩
abbrev RR : Value → Option (DataW Unit × List MemPlace) := fun _ => some (.nil, [])
theorem key3 (x : Int) (h : (Lit.int .i64 x).wf = true) : keyOf Try.prog 3 (.int .i64 x) = some (.int .i64 x) := by
  have hu : Try.prog.underlying 3 = some (.int .i64) := by kernel_rfl
  simp [keyOf, hu, mapKey, h]
theorem owns {w : World} {mp : Nat} {out : List (Int × Int)} (h : MapIs w mp out) (hr : ∀ p ∈ out, (Lit.int .i64 p.1).wf = true) (hl : out.length ≤ 4000) :
    ∃ D0 : DataW Unit, w.ownsMap Try.prog 3 RR mp out.length D0 ∧ Maps.size D0 = out.length ∧ (intKeys D0).Perm (out.map (·.1)) := by
  obtain ⟨es, clock, h1, h2, h3⟩ := h
  have hsz : es.size = out.length := by simpa using congrArg List.length h2
  have hk : ∀ x ∈ es.toList, ∃ z v, x.key = .int .i64 z ∧ (z, v) ∈ out := by
    intro x hx
    have h4 : (x.key, x.val) ∈ es.toList.map (fun e => (e.key, e.val)) := List.mem_map.2 ⟨x, hx, rfl⟩
    rw [h2] at h4
    obtain ⟨p, hp, he⟩ := List.mem_map.1 h4
    simp only [Prod.mk.injEq] at he
    exact ⟨p.1, p.2, he.1.symm, hp⟩
  have hrd : ∀ x ∈ es.toList, ∃ z v, (z, v) ∈ out ∧ x.key = .int .i64 z ∧ WideElems.rd Try.prog 3 RR x = some (.int .i64 z, .nil) := by
    intro x hx
    obtain ⟨z, v, hz, hm⟩ := hk x hx
    refine ⟨z, v, hm, hz, ?_⟩
    simp [WideElems.rd, hz, key3 z (hr _ hm)]
  refine ⟨.map ((es.toList.map (WideElems.rg Try.prog 3 RR)).foldr DataW.insert []), ⟨es, clock, h1, ⟨by simp only [maxLen]; omega, h3, fun x hx => ?_⟩, by omega, rfl⟩, ?_, ?_⟩
  · obtain ⟨z, v, _, _, e⟩ := hrd x hx
    exact ⟨_, e⟩
  · show ((es.toList.map (WideElems.rg Try.prog 3 RR)).foldr DataW.insert []).length = out.length
    rw [(sorted_perm _).length_eq]
    simpa using hsz
  · show (((es.toList.map (WideElems.rg Try.prog 3 RR)).foldr DataW.insert []).map fun p => Go.intOf p.1).Perm _
    refine ((sorted_perm _).map _).trans (List.Perm.of_eq ?_)
    rw [List.map_map]
    have e : es.toList.map ((fun p => Go.intOf p.1) ∘ WideElems.rg Try.prog 3 RR) = es.toList.map (fun x => match x.key with | .int _ z => z | _ => 0) := by
      refine List.map_congr_left fun x hx => ?_
      obtain ⟨z, v, _, hz, e⟩ := hrd x hx
      simp [WideElems.rg, e, hz, Go.intOf]
    rw [e]
    have e2 := congrArg (List.map (fun q : Value × Value => match q.1 with | .int _ z => z | _ => (0 : Int))) h2
    rw [List.map_map, List.map_map] at e2
    exact e2
theorem fr_below {w w' : World} (h : Go.RowKit.Below w.heap.size w w') : Fr [] w w' :=
  ⟨h.size, fun b hb _ => h.block b hb, h.os, h.output, fun a ha => h.frozen ha⟩
theorem flat1 : ∀ l : List Int, (l.map fun x => [Value.int .i64 x]).flatten = l.map encZ
  | [] => rfl
  | x :: l => by rw [List.map_cons, List.flatten_cons, flat1 l]; rfl
theorem sortedKeys {w : World} {mp : Nat} {out : List (Int × Int)} (h : MapIs w mp out) (hr : ∀ p ∈ out, (Lit.int .i64 p.1).wf = true) (hl : out.length ≤ 4000) :
    Calls Try.prog 76 #[.map (some mp)] w fun e w1 => ∃ v, e = .returned v ∧ Fr [] w w1 ∧ Calls Try.prog 75 #[v] w1 fun e w2 => ∃ A n c F ks, e = .returned (.slice A n c) ∧ (intsC (.slice A n c) ks).holds w2 F ∧ ks.Perm (out.map (·.1)) ∧ ks.Pairwise (fun x y => x ≤ y) ∧ (∀ x ∈ F, w1.heap.size ≤ x) ∧ Fr [] w w2 := by
  obtain ⟨D0, hown, hsz, hkeys⟩ := owns h hr hl
  have hlt := h.lt
  have hK := (callsIn_wide (n := 5)).1 (Go.Proofs.AnyZI.keys_in Lay.keysA Fence.wide 5 trivial rfl (some mp) w)
  change Calls Try.prog 76 _ _ _ at hK
  refine hK.mono ?_
  rintro e w1 ⟨rfl, rfl⟩
  refine ⟨_, rfl, (Fr.refl _ _).alloc, ?_⟩
  have hseq : SeqGives Fence.wide 2 Try.prog 90 #[.pointer (some ⟨w.heap.size, 0, none⟩)] encZ (fun ss => ss.Perm (intKeys D0)) (Maps.size D0) (w.alloc (.cells #[.map (some mp)] (Lay.keysA_ren.t 23))) :=
    Go.Proofs.AnyZI.keys_gives (ρ := Lay.keysA_ren) { Lay.keysA with } Fence.wide _ trivial rfl (by omega) w.heap.size mp out.length D0 _ (by simp) (by simp) (by
      obtain ⟨es, clock, hb, Ft, hs, hD⟩ := hown
      exact ⟨es, clock, (Go.RowKit.Below.heap_alloc _ _ mp hlt).trans hb, Ft, hs, hD⟩)
  have hS := (callsIn_wide (n := 5)).1 (Go.Proofs.AnyZI.sorted_in Lay.sortedA Fence.wide 5 trivial trivial trivial trivial rfl (by omega) (sortsA _) (enters_of Try.func89 (by kernel_rfl) rfl) 90 #[.pointer (some ⟨w.heap.size, 0, none⟩)] trivial (enters_of Try.func90 (by kernel_rfl) rfl) _ _ (by rw [hsz]; simp only [maxLen]; omega) (by rw [hsz]; omega) _ hseq)
  change Calls Try.prog 75 _ _ _ at hS
  refine hS.mono ?_
  rintro e w2 ⟨v, ss, rfl, hp, hrow, hnil, hb⟩
  have hF1 : Fr [] w (w.alloc (.cells #[.map (some mp)] (Lay.keysA_ren.t 23))) := (Fr.refl _ _).alloc
  have hF := hF1.trans (fr_below hb)
  have hpw : (ss.mergeSort leI).Pairwise (fun x y => x ≤ y) := by
    have := List.pairwise_mergeSort (le := leI) (fun a b c h1 h2 => by simp only [leI, decide_eq_true_eq] at *; exact Int.le_trans h1 h2) (fun a b => by simp only [leI, Bool.or_eq_true, decide_eq_true_eq]; exact Int.le_total a b) ss
    exact this.imp (fun h => by simpa [leI] using h)
  have hpm : (ss.mergeSort leI).Perm (out.map (·.1)) := (List.mergeSort_perm ss leI).trans (hp.trans hkeys)
  have hlen : (ss.mergeSort leI).length = ss.length := (List.mergeSort_perm ss leI).length_eq
  obtain ⟨q1, q2⟩ := hrow
  rcases q2 with ⟨rfl, q3⟩ | ⟨g, cap, cur, rfl, q4, q5, q6, q7, q8, q9⟩
  · have h0 : ss.mergeSort leI = [] := List.eq_nil_of_length_eq_zero (by omega)
    exact ⟨none, 0, 0, [], [], rfl, .inl ⟨rfl, rfl, rfl⟩, by rw [← h0]; exact hpm, List.Pairwise.nil, by simp, hF⟩
  · have hrow2 : w2.ownsRow 0 3 1 (.slice (some ⟨g, 0, none⟩) ss.length cap) ss.length (((ss.mergeSort leI).map fun x => [Value.int .i64 x]).flatten) := by
      rw [flat1]
      exact ⟨q1, .inr ⟨g, cap, cur, rfl, Nat.zero_le _, q5, q6, q7, q8, q9⟩⟩
    have hR := (Row.ofOwn (by decide) hrow2 (by intro r hr; obtain ⟨x, _, rfl⟩ := List.mem_map.1 hr; rfl)).1
    refine ⟨some ⟨g, 0, none⟩, ss.length, cap, [g], ss.mergeSort leI, rfl, .inr ⟨g, cap, by rw [List.length_map, hlen], rfl, hR⟩, hpm, hpw, ?_, hF⟩
    intro x hx
    simp at hx; subst hx; exact q4
end PA
end Go.Proofs.Ytebahglmdifmpaa
