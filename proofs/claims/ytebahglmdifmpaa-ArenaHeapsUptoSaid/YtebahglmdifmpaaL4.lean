/- ArenaHeaps: a heap of numbers beside the document's: one call on both. -/
import Derived.Test.YtebahglmdifmpaaL0
import Derived.Test.YtebahglmdifmpaaR0
set_option linter.unusedVariables false
set_option linter.unusedSimpArgs false
set_option maxRecDepth 10000
namespace Go.Proofs.Ytebahglmdifmpaa
open Go Go.Proofs.Ytebahglmdifmpaa.Vc
namespace LH
def rank (o x : Int) : Int := if o = 0 then x else if o = 1 then IntKind.i64.wrap (-1 - x) else if o = 2 then bitsI .and .i64 x 7 else 0
theorem rank_ (w : World) (o x : Int) : Calls Try.prog 27 #[.int .i64 o, .int .i64 x] w fun e w' => e = .returned (.int .i64 (rank o x)) ∧ Fr [] w w' := by
  refine Calls.mono (f27.calls (R := fun v w' => v = .int .i64 (rank o x) ∧ Fr [] w w') ?_) ?_
  · dsimp only [f27.VC]
    unfold rank
    refine sel_of ?_ ?_
    · intro h
      rw [if_pos (by simpa using h)]
      exact ⟨rfl, Fr.refl _ _⟩
    · intro h
      rw [if_neg (by simpa using h)]
      refine sel_of ?_ ?_
      · intro h
        rw [if_pos (by simpa using h)]
        exact ⟨rfl, Fr.refl _ _⟩
      · intro h
        rw [if_neg (by simpa using h)]
        refine sel_of ?_ ?_
        · intro h
          rw [if_pos (by simpa using h)]
          exact ⟨rfl, Fr.refl _ _⟩
        · intro h
          rw [if_neg (by simpa using h)]
          exact ⟨rfl, Fr.refl _ _⟩
  · rintro e w' ⟨v, rfl, rfl, h⟩
    exact ⟨rfl, h⟩
abbrev lt (o : Int) : Int → Int → Bool := HeapPlain.byRank (rank o)
abbrev AH (o : Int) := HeapPlain.ahead (lt o)
abbrev LESS (c : Nat) : Value := .func (.func 26) #[] #[.pointer (some ⟨c, 0, none⟩)]
theorem enters26 : entersB Try.prog 26 = true := by kernel_rfl
theorem less26 {c : Nat} {o : Int} : HI.Less (lt o) (fun w => Blk w c #[.int .i64 o] 3) (LESS c) := by
  rintro w x y hB
  refine CM.callT_of enters26 ?_
  refine Calls.mono (f26.calls (xa0 := x) (xa1 := y) (a2 := c) (w := w) (R := fun v w' => v = .bool (lt o x y) ∧ Fr [] w w') ?_) ?_
  · dsimp only [f26.VC]
    have c8 : w.cell? ⟨c, 0, none⟩ = some (.int .i64 o) := hB.cell rfl
    have hG : Fr [] w w.drew := (Fr.refl _ _).drew
    refine ⟨_, c8, ?_⟩
    repeat' (first
      | exact trivial
      | with_reducible exact ⟨rfl, hG⟩
      | with_reducible refine ⟨_, c8, ?_⟩
      | with_reducible refine ⟨_, hG.cell c8, ?_⟩
      | with_reducible refine And.intro ?_ ?_
      | (with_reducible refine Calls.mono (rank_ _ _ _) ?_
         rintro _ w3 ⟨rfl, hF⟩
         replace hG := hG.trans hF
         refine ⟨_, rfl, ?_⟩))
  · rintro e w' ⟨v, rfl, rfl, h⟩
    exact ⟨rfl, h⟩
abbrev heap (a c : Nat) (es : List (Int × Int)) (came : Int) : Chunk := Chunk.heap (α := Int) 128 130 2 HI.enc a (LESS c) es came
abbrev ordC (c : Nat) (o : Int) : Chunk := Chunk.blk c #[.int .i64 o] 3
section
variable {S : List Nat} {w0 w : World} {L : List Chunk} {a c : Nat} {es : List (Int × Int)} {came o : Int}
theorem push (h : St S w0 w L) (i j : Nat) (hij : i ≠ j) (hi : L[i]? = some (heap a c es came)) (hj : L[j]? = some (ordC c o)) (hn : es.length ≤ 4000000) (hc0 : 0 ≤ came) (hc1 : came ≤ 4611686018427387904) (x : Int) :
    Calls Try.prog 34 #[.pointer (some ⟨a, 0, none⟩), .int .i64 x] w fun e w' => e = .returned (.tuple #[]) ∧ St S w0 w' (L.set i (heap a c (HeapPlain.push HI.d (AH o) es (x, came)) (came + 1))) :=
  h.stepWith i j hij hi hj _ fun F G hF hG hd _ => HI.push (rests_blk c _ _) less26 hG.2 (by rw [hG.1] at hd; exact hd) hF hn hc0 hc1 x
theorem pop (h : St S w0 w L) (i j : Nat) (hij : i ≠ j) (hi : L[i]? = some (heap a c es came)) (hj : L[j]? = some (ordC c o)) (hn : es.length ≤ 4000000) :
    Calls Try.prog 36 #[.pointer (some ⟨a, 0, none⟩)] w fun e w' => e = .returned (.tuple #[.int .i64 (es.getD 0 HI.d).1, .bool (decide (0 < es.length))]) ∧ St S w0 w' (L.set i (heap a c (HeapPlain.popped HI.d (AH o) es) came)) :=
  h.stepWith i j hij hi hj _ fun F G hF hG hd _ => HI.pop (rests_blk c _ _) less26 hG.2 (by rw [hG.1] at hd; exact hd) hF hn
theorem peek (h : St S w0 w L) (i : Nat) (hi : L[i]? = some (heap a c es came)) :
    Calls Try.prog 35 #[.pointer (some ⟨a, 0, none⟩)] w fun e w' => e = .returned (.tuple #[.int .i64 (es.getD 0 HI.d).1, .bool (decide (0 < es.length))]) ∧ St S w0 w' L := by
  obtain ⟨F, h1, _⟩ := h.at i hi
  exact h.step0 (LW.peekI h1)
theorem len (h : St S w0 w L) (i : Nat) (hi : L[i]? = some (heap a c es came)) :
    Calls Try.prog 29 #[.pointer (some ⟨a, 0, none⟩)] w fun e w' => e = .returned (.int .i64 (es.length : Int)) ∧ St S w0 w' L := by
  obtain ⟨F, h1, _⟩ := h.at i hi
  exact h.step0 (HI.len h1)
abbrev numR (x : Nat) (o : Int) (a : Nat) (t : List (Int × Int)) : Chunk := RH.refC 56 [.int .i64 o, .pointer (some ⟨a, 0, none⟩)] x t
variable {x : Nat} {t : List (Int × Int)}
theorem rpush (h : St S w0 w L) (i : Nat) (hi : L[i]? = some (numR x o a t)) (p q : Int) (ht : t.length ≤ 4000000) :
    Calls Try.prog 17 #[.pointer (some ⟨x, 0 + 2, none⟩), .agg #[.int .i64 p, .int .i64 q]] w fun e w' => e = .returned (.tuple #[]) ∧ St S w0 w' (L.set i (numR x o a (t ++ [(p, q)]))) := RH.push h i hi (p, q) ht
theorem rpop (h : St S w0 w L) (i : Nat) (hi : L[i]? = some (numR x o a t)) (ht : t.length ≤ 4000000) :
    Calls Try.prog 21 #[.pointer (some ⟨x, 0 + 2, none⟩)] w fun e w' => e = .returned (.tuple #[.agg #[.int .i64 (t.getD (RH.leastOf t) RH.d).1, .int .i64 (t.getD (RH.leastOf t) RH.d).2], .bool (decide (0 < t.length))]) ∧ St S w0 w' (L.set i (numR x o a (t.eraseIdx (RH.leastOf t)))) := RH.pop h i hi ht
theorem rpeek (h : St S w0 w L) (i : Nat) (hi : L[i]? = some (numR x o a t)) (ht : t.length ≤ 4000000) :
    Calls Try.prog 64 #[.pointer (some ⟨x, 0 + 2, none⟩)] w fun e w' => e = .returned (.tuple #[.agg #[.int .i64 (t.getD (RH.leastOf t) RH.d).1, .int .i64 (t.getD (RH.leastOf t) RH.d).2], .bool (decide (0 < t.length))]) ∧ St S w0 w' L := by
  have h1 := RH.peekS h i hi ht
  exact h1
theorem rcell (h : St S w0 w L) (i : Nat) (hi : L[i]? = some (numR x o a t)) : ∃ A c, w.cell? ⟨x, 0 + 2, none⟩ = some (.slice A t.length c) := by
  have h1 := RH.cellS h i hi
  exact h1
end
/-! ### Lists alone -/
def things (o : Int) (A : List (Int × Int)) : List (Int × Int) := A.map fun e => (rank o e.1, e.1)
theorem map_erase {α β : Type} (f : α → β) : ∀ (l : List α) (k : Nat), (l.eraseIdx k).map f = (l.map f).eraseIdx k
  | [], _ => rfl
  | _ :: _, 0 => rfl
  | x :: l, k + 1 => by simp [map_erase f l k]
structure Coupled (o : Int) (es : List (Int × Int)) (came : Int) (A : List (Int × Int)) (m : Nat) : Prop where
  perm : es.Perm A
  ord : HeapPlain.Ordered HI.d (AH o) es
  asc : A.Pairwise (fun x y => x.2 < y.2)
  below : ∀ e ∈ A, e.2 < came
  c0 : 0 ≤ came
  cm : came ≤ m
  lm : A.length ≤ m
theorem Coupled.start (o : Int) : Coupled o [] 0 [] 0 := ⟨List.Perm.refl _, by intro i h1 h2; simp at h2, List.Pairwise.nil, by simp, by omega, by omega, by simp⟩
theorem Coupled.push {o : Int} {es : List (Int × Int)} {came : Int} {A : List (Int × Int)} {m : Nat} (h : Coupled o es came A m) (x : Int) : Coupled o (HeapPlain.push HI.d (AH o) es (x, came)) (came + 1) (A ++ [(x, came)]) (m + 1) := by
  refine ⟨?_, HeapPlain.push_ordered (HeapPlain.total_rank (rank o)) h.ord _, ?_, ?_, by have := h.c0; omega, by have := h.cm; omega, by have := h.lm; simp; omega⟩
  · exact (HeapPlain.push_perm HI.d (AH o) es (x, came)).trans ((h.perm.cons _).trans (List.perm_append_comm (l₁ := [(x, came)])))
  · rw [List.pairwise_append]
    refine ⟨h.asc, List.pairwise_singleton _ _, ?_⟩
    intro a ha b hb
    simp at hb
    subst hb
    exact h.below a ha
  · intro e he
    rcases List.mem_append.1 he with he | he
    · have := h.below e he; omega
    · simp at he; subst he; show came < came + 1; omega
theorem Coupled.len {o : Int} {es : List (Int × Int)} {came : Int} {A : List (Int × Int)} {m : Nat} (h : Coupled o es came A m) : es.length = (things o A).length := by
  rw [h.perm.length_eq]; simp [things]
theorem Coupled.first {o : Int} {es : List (Int × Int)} {came : Int} {A : List (Int × Int)} {m : Nat} (h : Coupled o es came A m) : (es.getD 0 HI.d).1 = ((things o A).getD (RH.leastOf (things o A)) RH.d).2 ∧
    Coupled o (HeapPlain.popped HI.d (AH o) es) came (A.eraseIdx (RH.leastOf (things o A))) m ∧ things o (A.eraseIdx (RH.leastOf (things o A))) = (things o A).eraseIdx (RH.leastOf (things o A)) := by
  by_cases h0 : 0 < (things o A).length
  · have hf := RH.leastOf_first h0
    have e : (things o A).map (·.1) = A.map fun x => rank o x.1 := by simp [things]
    rw [e] at hf
    obtain ⟨p1, p2, p3⟩ := HeapPlain.pop_first (d := HI.d) h.ord h.perm h.asc hf
    have hk : RH.leastOf (things o A) < A.length := by simpa using hf.lt
    generalize RH.leastOf (things o A) = k at *
    refine ⟨?_, ⟨p2, p3, h.asc.sublist (List.eraseIdx_sublist _ _), fun e he => h.below e (List.mem_of_mem_eraseIdx he), h.c0, h.cm, ?_⟩, ?_⟩
    · rw [p1]
      simp [things, List.getD_eq_getElem?_getD, hk]
    · have := List.length_eraseIdx_le A k
      have := h.lm; omega
    · exact map_erase _ A k
  · have hA : A = [] := by
      apply List.eq_nil_of_length_eq_zero
      simp [things] at h0
      simp [h0]
    subst hA
    have he : es = [] := List.Perm.eq_nil h.perm
    subst he
    exact ⟨rfl, h, rfl⟩
abbrev numBody (x : Nat) (o : Int) (a c : Nat) (es : List (Int × Int)) (came : Int) (A : List (Int × Int)) : Chunk :=
  Chunk.star (heap a c es came) (Chunk.star (ordC c o) (numR x o a (things o A)))
/-- A pair of heaps: of n things, behind at most m pushes. -/
def numC (x : Nat) (m n : Nat) : Chunk := Chunk.ex fun q : Int × Nat × Nat × List (Int × Int) × Int × List (Int × Int) =>
  Chunk.fact (Coupled q.1 q.2.2.2.1 q.2.2.2.2.1 q.2.2.2.2.2 m ∧ (things q.1 q.2.2.2.2.2).length = n) (numBody x q.1 q.2.1 q.2.2.1 q.2.2.2.1 q.2.2.2.2.1 q.2.2.2.2.2)
def more (k : Int) (m : Nat) : Nat := if k = 1 then m + 1 else m
theorem one_ {w : World} {F : List Nat} {x m n : Nat} (h : (numC x m n).holds w F) (hm : m ≤ 3000000) (k hp v : Int) :
    Calls Try.prog 28 #[.pointer (some ⟨x, 0, none⟩), .agg #[.int .i64 k, .int .i64 hp, .int .i64 v]] w fun e w' => e = .returned (.bool true) ∧
      ∃ F', (Chunk.ex fun n' => Chunk.fact (n' ≤ more k m ∧ (k = 2 → n' = n - 1)) (numC x (more k m) n')).holds w' F' ∧ Fr F w w' ∧ ∀ b ∈ F', b ∈ F ∨ w.heap.size ≤ b := by
  refine Calls.mono (f28.calls (R := fun r w' => r = .bool true ∧ ∃ F', (Chunk.ex fun n' => Chunk.fact (n' ≤ more k m ∧ (k = 2 → n' = n - 1)) (numC x (more k m) n')).holds w' F' ∧ Fr F w w' ∧ ∀ b ∈ F', b ∈ F ∨ w.heap.size ≤ b) ?_) ?_
  · dsimp only [f28.VC]
    obtain ⟨⟨o, a, c, es, came, A⟩, hS⟩ := (St.start1 h).unex 0 rfl
    obtain ⟨⟨hC, hn⟩, hS⟩ := hS.unfact 0 rfl
    dsimp only at hC hn
    have hS := St.split (L := []) hS
    have hS := (hS.swap 0 1 rfl rfl).split
    have hS : St F w w [ordC c o, numR x o a (things o A), heap a c es came] := hS
    have fin : ∀ (w' : World) (es' : List (Int × Int)) (came' : Int) (A' : List (Int × Int)) (t : Chunk), Coupled o es' came' A' (more k m) → (k = 2 → (things o A').length = n - 1) →
        St F w w' [t, ordC c o, numR x o a (things o A'), heap a c es' came'] → ∃ F', (Chunk.ex fun n' => Chunk.fact (n' ≤ more k m ∧ (k = 2 → n' = n - 1)) (numC x (more k m) n')).holds w' F' ∧ Fr F w w' ∧ ∀ b ∈ F', b ∈ F ∨ w.heap.size ≤ b := by
      intro w' es' came' A' t hC' hk hS'
      have h1 := hS'.tail.join
      have h2 := (h1.swap 0 1 rfl rfl).join
      have h3 := h2.as 0 rfl (Chunk.ex fun n' => Chunk.fact (n' ≤ more k m ∧ (k = 2 → n' = n - 1)) (numC x (more k m) n')) (fun F hF => ⟨(things o A').length, ⟨by have := hC'.lm; simpa [things] using this, hk⟩, (o, a, c, es', came', A'), ⟨hC', rfl⟩, hF⟩)
      exact h3.whole
    have hl := hC.lm
    have hlen := hC.len
    have hAl : (things o A).length = A.length := by simp [things]
    have hup : Coupled o es came A (more k m) := by
      have hm : m ≤ more k m := by unfold more; split <;> omega
      exact ⟨hC.perm, hC.ord, hC.asc, hC.below, hC.c0, by have := hC.cm; omega, by omega⟩
    have hc0 := hC.c0
    have hcm := hC.cm
    have hS1 := hS.alloc #[.int .i64 k, .int .i64 hp, .int .i64 v] 58
    generalize World.alloc w (.cells #[.int .i64 k, .int .i64 hp, .int .i64 v] 58) = w1 at *
    have hT := hS1.blk 0 rfl
    have q0 : w1.cell? ⟨x, 0, none⟩ = some (.int .i64 o) := RH.preS hS1 2 rfl (by rfl)
    have q1 : w1.cell? ⟨x, 1, none⟩ = some (.pointer (some ⟨a, 0, none⟩)) := RH.preS hS1 2 rfl (by rfl)
    refine ⟨_, hT.cell rfl, sel_of ?_ ?_⟩
    · intro hk
      have hk : k = 1 := by simpa using hk
      refine ⟨_, q1, _, hT.cell rfl, ?_⟩
      refine Calls.mono (push hS1.drew 3 1 (by decide) rfl rfl (by omega) hc0 (by omega) v) ?_
      rintro _ w2 ⟨rfl, hS2⟩
      have c0 : w2.cell? ⟨x, 0, none⟩ = some (.int .i64 o) := RH.preS hS2 2 rfl (by rfl)
      have hT2 := hS2.blk 0 rfl
      refine ⟨rfl, _, c0, _, hT2.cell rfl, ?_, ⟨_, hT2.cell rfl, ?_⟩, trivial⟩
      all_goals
        refine Calls.mono (hS2.drew.step0 (rank_ _ _ _)) ?_
        rintro _ w3 ⟨rfl, hS3⟩
        refine ⟨_, rfl, ?_⟩
        have hT3 : w3.cell? ⟨w.heap.size, 2, none⟩ = some (.int .i64 v) := (hS3.blk 0 rfl).cell rfl
        try with_reducible refine ⟨_, hT3, ?_⟩
        refine Calls.mono (rpush hS3 2 rfl (rank o v) v (by omega)) ?_
        rintro _ w4 ⟨rfl, hS4⟩
        have e : things o (A ++ [(v, came)]) = things o A ++ [(rank o v, v)] := by simp [things]
        have hS5 : St F w w4 [Chunk.blk w.heap.size #[.int .i64 k, .int .i64 hp, .int .i64 v] 58, ordC c o, numR x o a (things o (A ++ [(v, came)])), heap a c (HeapPlain.push HI.d (AH o) es (v, came)) (came + 1)] := by
          rw [e]; exact hS4
        exact ⟨rfl, rfl, fin w4 _ _ _ _ (by rw [show more k m = m + 1 by unfold more; rw [if_pos hk]]; exact hC.push v) (by omega) hS5⟩
    · intro hk1
      have hk1 : ¬ k = 1 := by simpa using hk1
      refine sel_of ?_ ?_
      · intro hk
        have hk : k = 2 := by simpa using hk
        refine ⟨_, q1, ?_⟩
        refine Calls.mono (pop hS1 3 1 (by decide) rfl rfl (by omega)) ?_
        rintro _ w2 ⟨rfl, hS2⟩
        refine ⟨_, _, rfl, ?_⟩
        refine Calls.mono (rpop hS2 2 rfl (by omega)) ?_
        rintro _ w3 ⟨rfl, hS3⟩
        refine ⟨_, _, _, rfl, ?_⟩
        obtain ⟨f1, f2, f3⟩ := hC.first
        have f4 : Coupled o (HeapPlain.popped HI.d (AH o) es) came (A.eraseIdx (RH.leastOf (things o A))) (more k m) := by
          rw [show more k m = m by unfold more; rw [if_neg (by omega)]]; exact f2
        have hS3' : St F w w3 [Chunk.blk w.heap.size #[.int .i64 k, .int .i64 hp, .int .i64 v] 58, ordC c o, numR x o a (things o (A.eraseIdx (RH.leastOf (things o A)))), heap a c (HeapPlain.popped HI.d (AH o) es) came] := by
          rw [f3]; exact hS3
        have hlen2 : (things o (A.eraseIdx (RH.leastOf (things o A)))).length = n - 1 := by
          rw [f3, ← hn]
          rcases Nat.eq_zero_or_pos (things o A).length with h0 | h0
          · rw [List.eq_nil_of_length_eq_zero h0]; rfl
          · rw [List.length_eraseIdx, if_pos (show RH.leastOf (things o A) < (things o A).length from RH.leastUpto_lt _ _ h0)]
        have hS4 := hS3'.alloc #[.int .i64 0, .int .i64 0] 38
        generalize World.alloc w3 (.cells #[.int .i64 0, .int .i64 0] 38) = w4 at *
        generalize (things o A).getD (RH.leastOf (things o A)) RH.d = q at *
        have hS5 := hS4.over 0 rfl (RH.two q) rfl
        refine ⟨(hS4.blk 0 rfl).can (by simp), sel_true (by rw [hlen]; simp) ⟨_, (hS5.blk 0 rfl).cell rfl, by rw [f1]; simp, ?_⟩⟩
        exact fin _ _ _ _ _ f4 (fun _ => hlen2) hS5.tail
      · intro hk2
        have hk2 : ¬ k = 2 := by simpa using hk2
        refine sel_of ?_ ?_
        · intro hk
          refine ⟨_, q1, ?_⟩
          refine Calls.mono (peek hS1 3 rfl) ?_
          rintro _ w2 ⟨rfl, hS2⟩
          refine ⟨_, _, rfl, ?_⟩
          refine Calls.mono (rpeek hS2 2 rfl (by omega)) ?_
          rintro _ w3 ⟨rfl, hS3⟩
          refine ⟨_, _, _, rfl, ?_⟩
          obtain ⟨f1, _, _⟩ := hC.first
          have hS4 := hS3.alloc #[.int .i64 0, .int .i64 0] 38
          generalize World.alloc w3 (.cells #[.int .i64 0, .int .i64 0] 38) = w4 at *
          generalize (things o A).getD (RH.leastOf (things o A)) RH.d = q at *
          have hS5 := hS4.over 0 rfl (RH.two q) rfl
          refine ⟨(hS4.blk 0 rfl).can (by simp), sel_true (by rw [hlen]; simp) ⟨_, (hS5.blk 0 rfl).cell rfl, by rw [f1]; simp, ?_⟩⟩
          exact fin _ _ _ _ _ hup (by omega) hS5.tail
        · intro hk3
          refine sel_of ?_ ?_
          · intro hk4
            refine ⟨_, q1, ?_, ?_, trivial⟩
            · refine Calls.mono (len hS1.drew 3 rfl) ?_
              rintro _ w2 ⟨rfl, hS2⟩
              obtain ⟨A2, c2, hc⟩ := rcell hS2 2 rfl
              refine ⟨_, rfl, _, _, _, hc, by rw [hlen]; simp, ?_⟩
              exact fin _ _ _ _ _ hup (by omega) hS2
            · obtain ⟨A2, c2, hc⟩ := rcell hS1 2 rfl
              refine ⟨_, _, _, hc, ?_⟩
              refine Calls.mono (len hS1.drew 3 rfl) ?_
              rintro _ w2 ⟨rfl, hS2⟩
              refine ⟨_, rfl, by rw [hlen]; simp, ?_⟩
              exact fin _ _ _ _ _ hup (by omega) hS2
          · intro hk4
            exact ⟨rfl, fin _ _ _ _ _ hup (by omega) hS1⟩
  · rintro e w' ⟨v, rfl, rfl, h⟩
    exact ⟨rfl, h⟩
theorem numC.mono {w : World} {F : List Nat} {x m m' n : Nat} (h : (numC x m n).holds w F) (hm : m ≤ m') : (numC x m' n).holds w F := by
  obtain ⟨q, ⟨hC, hn⟩, h⟩ := h
  exact ⟨q, ⟨⟨hC.perm, hC.ord, hC.asc, hC.below, hC.c0, by have := hC.cm; omega, by have := hC.lm; omega⟩, hn⟩, h⟩
/-- What is read of a pair. -/
theorem numC.look {w : World} {F : List Nat} {x m n : Nat} (h : (numC x m n).holds w F) : n ≤ m ∧ ∃ a, w.cell? ⟨x, 0 + 1, none⟩ = some (.pointer (some ⟨a, 0, none⟩)) ∧ (∃ A c, w.cell? ⟨x, 0 + 2, none⟩ = some (.slice A n c)) ∧
    Calls Try.prog 29 #[.pointer (some ⟨a, 0, none⟩)] w fun e w' => e = .returned (.int .i64 (n : Int)) ∧ Fr [] w w' := by
  obtain ⟨⟨o, a, c, es, came, A⟩, hS⟩ := (St.start1 h).unex 0 rfl
  obtain ⟨⟨hC, hn⟩, hS⟩ := hS.unfact 0 rfl
  dsimp only at hC hn
  have hS := St.split (L := []) hS
  have hS := (hS.swap 0 1 rfl rfl).split
  have hS : St F w w [ordC c o, numR x o a (things o A), heap a c es came] := hS
  refine ⟨by have := hC.lm; simp [things] at hn; omega, a, RH.preS hS 1 rfl (j := 1) rfl, ?_, ?_⟩
  · rw [← hn]; exact rcell hS 1 rfl
  · obtain ⟨F2, h2, _⟩ := hS.at 2 rfl
    rw [← hn, ← hC.len]
    exact HI.len h2
end LH
end Go.Proofs.Ytebahglmdifmpaa
