/- A heap and the document's, side by side: lists alone. -/
import Derived.Test.YtebahglmdifmpaaR0
set_option linter.unusedVariables false
namespace Go.Proofs.Ytebahglmdifmpaa
open Go Go.Proofs.Ytebahglmdifmpaa.Vc
namespace GC
variable {α : Type} {rank : α → Int} {d : α × Int} {es A : List (α × Int)} {came : Int}
abbrev AH (rank : α → Int) := HeapPlain.ahead (HeapPlain.byRank rank)
structure Coupled (rank : α → Int) (d : α × Int) (es : List (α × Int)) (came : Int) (A : List (α × Int)) : Prop where
  perm : es.Perm A
  ord : HeapPlain.Ordered d (AH rank) es
  asc : A.Pairwise (fun x y => x.2 < y.2)
  below : ∀ e ∈ A, e.2 < came
theorem Coupled.start (rank : α → Int) (d : α × Int) : Coupled rank d [] 0 [] := ⟨List.Perm.refl _, by intro i h1 h2; simp at h2, List.Pairwise.nil, by simp⟩
theorem Coupled.push (h : Coupled rank d es came A) (x : α) : Coupled rank d (HeapPlain.push d (AH rank) es (x, came)) (came + 1) (A ++ [(x, came)]) := by
  refine ⟨?_, HeapPlain.push_ordered (HeapPlain.total_rank rank) h.ord _, ?_, ?_⟩
  · exact (HeapPlain.push_perm d (AH rank) es (x, came)).trans ((h.perm.cons _).trans (List.perm_append_comm (l₁ := [(x, came)])))
  · rw [List.pairwise_append]
    refine ⟨h.asc, List.pairwise_singleton _ _, ?_⟩
    intro a ha b hb
    simp at hb
    subst hb
    exact h.below a ha
  · intro e he
    rcases List.mem_append.1 he with he | he
    · have := h.below e he; omega
    · simp at he; subst he; show came < came + 1; omega
theorem Coupled.len (h : Coupled rank d es came A) : es.length = A.length := h.perm.length_eq
theorem map_erase {α β : Type} (f : α → β) : ∀ (l : List α) (k : Nat), (l.eraseIdx k).map f = (l.map f).eraseIdx k
  | [], _ => rfl
  | _ :: _, 0 => rfl
  | x :: l, k + 1 => by simp [map_erase f l k]
theorem Coupled.first (h : Coupled rank d es came A) (f : α × Int → Int × Int) (hf : ∀ e, (f e).1 = rank e.1) : es.getD 0 d = A.getD (RH.leastOf (A.map f)) d ∧
    Coupled rank d (HeapPlain.popped d (AH rank) es) came (A.eraseIdx (RH.leastOf (A.map f))) ∧ (A.eraseIdx (RH.leastOf (A.map f))).map f = (A.map f).eraseIdx (RH.leastOf (A.map f)) ∧ (0 < A.length → RH.leastOf (A.map f) < A.length) := by
  by_cases h0 : 0 < (A.map f).length
  · have hl := RH.leastOf_first h0
    have e : (A.map f).map (·.1) = A.map fun x => rank x.1 := by simp [hf]
    rw [e] at hl
    obtain ⟨p1, p2, p3⟩ := HeapPlain.pop_first (d := d) h.ord h.perm h.asc hl
    have hk : RH.leastOf (A.map f) < A.length := by simpa using hl.lt
    exact ⟨p1, ⟨p2, p3, h.asc.sublist (List.eraseIdx_sublist _ _), fun e he => h.below e (List.mem_of_mem_eraseIdx he)⟩, map_erase _ _ _, fun _ => hk⟩
  · have hA : A = [] := by
      apply List.eq_nil_of_length_eq_zero
      simp at h0
      simp [h0]
    subst hA
    have he : es = [] := List.Perm.eq_nil h.perm
    subst he
    exact ⟨rfl, h, rfl, by simp⟩
end GC
end Go.Proofs.Ytebahglmdifmpaa
