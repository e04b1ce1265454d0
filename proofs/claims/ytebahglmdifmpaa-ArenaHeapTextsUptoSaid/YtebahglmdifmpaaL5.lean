/- ArenaHeapSorts: true, of all lists and mods. -/
import Derived.Test.YtebahglmdifmpaaL0
import Derived.Test.YtebahglmdifmpaaH1
import Derived.Test.YtebahglmdifmpaaS0
set_option linter.unusedVariables false
set_option linter.unusedSimpArgs false
set_option maxRecDepth 10000
namespace Go.Proofs.Ytebahglmdifmpaa
open Go Go.Proofs.Ytebahglmdifmpaa.Vc
namespace LS
def key (x mod : Int) : Int := if 0 < mod then Int.tmod x mod else x
theorem key_ (w : World) (x mod : Int) : Calls Try.prog 31 #[.int .i64 x, .int .i64 mod] w fun e w' => e = .returned (.int .i64 (key x mod)) ∧ Fr [] w w' := by
  refine Calls.mono (f31.calls (R := fun v w' => v = .int .i64 (key x mod) ∧ Fr [] w w') ?_) ?_
  · dsimp only [f31.VC]
    refine sel_of ?_ ?_
    · intro h
      have h : 0 < mod := by simpa using h
      exact ⟨by omega, by unfold key; rw [if_pos h], Fr.refl _ _⟩
    · intro h
      have h : ¬ 0 < mod := by simpa using h
      exact ⟨by unfold key; rw [if_neg h], Fr.refl _ _⟩
  · rintro e w' ⟨v, rfl, rfl, h⟩
    exact ⟨rfl, h⟩
def rank (mod : Int) (p : Int × Int) : Int := key p.1 mod
abbrev lt (mod : Int) : Int × Int → Int × Int → Bool := HeapPlain.byRank (rank mod)
theorem enters30 : entersB Try.prog 30 = true := by kernel_rfl
theorem less30 {c : Nat} {mod : Int} : HP.Less (lt mod) (fun w => Blk w c #[.int .i64 mod] 3) (.func (.func 30) #[] #[.pointer (some ⟨c, 0, none⟩)]) := by
  rintro w x y hB
  refine CM.callT_of enters30 ?_
  refine Calls.mono (f30.calls (xa0_0 := x.1) (xa0_1 := x.2) (xa1_0 := y.1) (xa1_1 := y.2) (a2 := c) (w := w) (R := fun v w' => v = .bool (lt mod x y) ∧ Fr [] w w') ?_) ?_
  · dsimp only [f30.VC]
    have hF1 : Fr [] w (World.alloc w (.cells #[.int .i64 x.1, .int .i64 x.2] 30)) := (Fr.refl _ _).alloc
    have hB1 : Blk (World.alloc w (.cells #[.int .i64 x.1, .int .i64 x.2] 30)) w.heap.size #[.int .i64 x.1, .int .i64 x.2] 30 := Blk.new
    generalize World.alloc w (.cells #[.int .i64 x.1, .int .i64 x.2] 30) = w1 at *
    have hF2 : Fr [] w1 (World.alloc w1 (.cells #[.int .i64 y.1, .int .i64 y.2] 30)) := (Fr.refl _ _).alloc
    have hB2 : Blk (World.alloc w1 (.cells #[.int .i64 y.1, .int .i64 y.2] 30)) w1.heap.size #[.int .i64 y.1, .int .i64 y.2] 30 := Blk.new
    generalize World.alloc w1 (.cells #[.int .i64 y.1, .int .i64 y.2] 30) = w2 at *
    have hFw := hF1.trans hF2
    have c7 : w2.cell? ⟨w.heap.size, 0, none⟩ = some (.int .i64 x.1) := (hF2.blk hB1 (by simp)).cell rfl
    have c8 : w2.cell? ⟨c, 0, none⟩ = some (.int .i64 mod) := (hFw.blk hB (by simp)).cell rfl
    have c11 : w2.cell? ⟨w1.heap.size, 0, none⟩ = some (.int .i64 y.1) := hB2.cell rfl
    have hG : Fr [] w2 w2.drew := (Fr.refl _ _).drew
    refine ⟨by omega, by omega, by omega, by omega, _, c7, _, c8, ?_⟩
    repeat' (first
      | exact trivial
      | with_reducible exact ⟨rfl, hFw.trans hG⟩
      | with_reducible refine ⟨_, c8, ?_⟩
      | with_reducible refine ⟨_, c11, ?_⟩
      | with_reducible refine ⟨_, hG.cell c8, ?_⟩
      | with_reducible refine ⟨_, hG.cell c11, ?_⟩
      | with_reducible refine And.intro ?_ ?_
      | (with_reducible refine Calls.mono (key_ _ _ _) ?_
         rintro _ w3 ⟨rfl, hF⟩
         replace hG := hG.trans hF
         refine ⟨_, rfl, ?_⟩))
  · rintro e w' ⟨v, rfl, rfl, h⟩
    exact ⟨rfl, h⟩
theorem peekP {w : World} {F : List Nat} {a : Nat} {less : Value} {es : List ((Int × Int) × Int)} {came : Int} (h : HP.At w F a less es came) :
    Calls Try.prog 32 #[.pointer (some ⟨a, 0, none⟩)] w fun e w' => e = .returned (.tuple #[HP.val (es.getD 0 HP.d).1, .bool (decide (0 < es.length))]) ∧ Fr [] w w' := by
  refine Calls.mono (f32.calls (R := fun v w' => v = .tuple #[HP.val (es.getD 0 HP.d).1, .bool (decide (0 < es.length))] ∧ Fr [] w w') ?_) ?_
  · dsimp only [f32.VC]
    by_cases he0 : es = []
    · obtain ⟨v, hA, he, hv⟩ := h
      have hL : ∃ A c, v = .slice A 0 c := by
        rcases hv with ⟨rfl, _, _⟩ | ⟨g, cap, rfl, _⟩
        · exact ⟨_, _, rfl⟩
        · subst he0; exact ⟨_, _, rfl⟩
      obtain ⟨A, c, rfl⟩ := hL
      have hQ : Blk (World.alloc w (.cells #[.int .i64 0, .int .i64 0] 30)) w.heap.size #[.int .i64 0, .int .i64 0] 30 := Blk.new
      refine ⟨_, _, _, hA.alloc.cell rfl, sel_true rfl ⟨_, hQ.cell rfl, _, hQ.cell rfl, hQ.can (by simp), _, (hQ.whole (vs := [.int .i64 0, .int .i64 0]) rfl).cell rfl, _, (hQ.whole (vs := [.int .i64 0, .int .i64 0]) rfl).cell rfl, ?_⟩⟩
      subst he0
      exact ⟨rfl, (Fr.refl [] w).alloc.set (.inr (Nat.le_refl _))⟩
    · have hpos : 0 < es.length := List.length_pos_iff.mpr he0
      obtain ⟨g, cap, hA, rfl, hga, hR, he⟩ := h.row hpos
      have hQ : Blk (World.alloc w (.cells #[.int .i64 0, .int .i64 0] 30)) w.heap.size #[.int .i64 0, .int .i64 0] 30 := Blk.new
      have hR1 : Row (World.alloc w (.cells #[.int .i64 0, .int .i64 0] 30)) 125 3 g cap (es.map HP.enc) := hR.fr (Fr.refl [] w).alloc (by simp)
      refine ⟨_, _, _, hA.alloc.cell rfl, sel_false (by simp; exact he0) ⟨_, _, _, hA.alloc.cell rfl, by omega, by omega, needPtr_of rfl ⟨_, hR1.ent (d := HP.d) hpos (j := 0) (by decide) (by simp) rfl, _, hR1.ent (d := HP.d) hpos (j := 1) (by decide) (by simp) rfl, hQ.can (by simp), ?_⟩⟩⟩
      refine ⟨_, (hQ.whole (vs := [.int .i64 (es.getD 0 HP.d).1.1, .int .i64 (es.getD 0 HP.d).1.2]) rfl).cell rfl, _, (hQ.whole (vs := [.int .i64 (es.getD 0 HP.d).1.1, .int .i64 (es.getD 0 HP.d).1.2]) rfl).cell rfl, ?_⟩
      rw [decide_eq_true hpos]
      exact ⟨rfl, (Fr.refl [] w).alloc.set (.inr (Nat.le_refl _))⟩
  · rintro e w' ⟨v, rfl, rfl, h⟩
    exact ⟨rfl, h⟩
theorem newPair (w : World) (f : Nat) (cap : Array Value) : Calls Try.prog 14 #[.func (.func f) #[] cap] w fun e w' => e = .returned (.pointer (some ⟨w.heap.size, 0, none⟩)) ∧ HP.At w' [w.heap.size] w.heap.size (.func (.func f) #[] cap) [] 0 ∧ Fr [] w w' := by
  refine Calls.mono (f14.calls (a0 := f) (cap0 := cap) (w := w) (R := fun v w' => v = .pointer (some ⟨w.heap.size, 0, none⟩) ∧ HP.At w' [w.heap.size] w.heap.size (.func (.func f) #[] cap) [] 0 ∧ Fr [] w w') ?_) ?_
  · dsimp only [f14.VC]
    refine ⟨false, fun w' => by kernel_rfl, ?_⟩
    exact ⟨rfl, ⟨_, Blk.new, fun x => rfl, .inl ⟨rfl, rfl, rfl⟩⟩, (Fr.refl _ _).alloc⟩
  · rintro e w' ⟨v, rfl, rfl, h⟩
    exact ⟨rfl, h⟩
abbrev heap (a c : Nat) (es : List ((Int × Int) × Int)) (came : Int) : Chunk := Chunk.heap (α := Int × Int) 120 125 3 HP.enc a (.func (.func 30) #[] #[.pointer (some ⟨c, 0, none⟩)]) es came
abbrev modC (c : Nat) (mod : Int) : Chunk := Chunk.blk c #[.int .i64 mod] 3
abbrev AH (mod : Int) := HeapPlain.ahead (lt mod)
section
variable {S : List Nat} {w0 w : World} {L : List Chunk} {a c : Nat} {es : List ((Int × Int) × Int)} {came mod : Int}
theorem push (h : St S w0 w L) (i j : Nat) (hij : i ≠ j) (hi : L[i]? = some (heap a c es came)) (hj : L[j]? = some (modC c mod)) (hn : es.length ≤ 4000000) (hc0 : 0 ≤ came) (hc1 : came ≤ 4611686018427387904) (x : Int × Int) :
    Calls Try.prog 18 #[.pointer (some ⟨a, 0, none⟩), .agg #[.int .i64 x.1, .int .i64 x.2]] w fun e w' => e = .returned (.tuple #[]) ∧ St S w0 w' (L.set i (heap a c (HeapPlain.push HP.d (AH mod) es (x, came)) (came + 1))) :=
  h.stepWith i j hij hi hj _ fun F G hF hG hd _ => HP.push (rests_blk c _ _) less30 hG.2 (by rw [hG.1] at hd; exact hd) hF hn hc0 hc1 x
theorem pop (h : St S w0 w L) (i j : Nat) (hij : i ≠ j) (hi : L[i]? = some (heap a c es came)) (hj : L[j]? = some (modC c mod)) (hn : es.length ≤ 4000000) :
    Calls Try.prog 22 #[.pointer (some ⟨a, 0, none⟩)] w fun e w' => e = .returned (.tuple #[HP.val (es.getD 0 HP.d).1, .bool (decide (0 < es.length))]) ∧ St S w0 w' (L.set i (heap a c (HeapPlain.popped HP.d (AH mod) es) came)) :=
  h.stepWith i j hij hi hj _ fun F G hF hG hd _ => HP.pop (rests_blk c _ _) less30 hG.2 (by rw [hG.1] at hd; exact hd) hF hn
theorem peek (h : St S w0 w L) (i : Nat) (hi : L[i]? = some (heap a c es came)) :
    Calls Try.prog 32 #[.pointer (some ⟨a, 0, none⟩)] w fun e w' => e = .returned (.tuple #[HP.val (es.getD 0 HP.d).1, .bool (decide (0 < es.length))]) ∧ St S w0 w' L := by
  obtain ⟨F, h1, _⟩ := h.at i hi
  exact h.step0 (peekP h1)
theorem len (h : St S w0 w L) (i : Nat) (hi : L[i]? = some (heap a c es came)) :
    Calls Try.prog 24 #[.pointer (some ⟨a, 0, none⟩)] w fun e w' => e = .returned (.int .i64 (es.length : Int)) ∧ St S w0 w' L := by
  obtain ⟨F, h1, _⟩ := h.at i hi
  exact h.step0 (HP.len h1)
end
/-! ### Lists alone -/
def ent (l : List Int) (j : Nat) : (Int × Int) × Int := ((l.getD j 0, (j : Int)), (j : Int))
structure Heaped (l : List Int) (mod : Int) (k : Nat) (es : List ((Int × Int) × Int)) : Prop where
  perm : es.Perm ((List.range k).map (ent l))
  ord : HeapPlain.Ordered HP.d (AH mod) es
theorem Heaped.len {l : List Int} {mod : Int} {k : Nat} {es : List ((Int × Int) × Int)} (h : Heaped l mod k es) : es.length = k := by
  rw [h.perm.length_eq]; simp
theorem Heaped.mem {l : List Int} {mod : Int} {k : Nat} {es : List ((Int × Int) × Int)} (h : Heaped l mod k es) {e : (Int × Int) × Int} : e ∈ es ↔ ∃ j, j < k ∧ e = ent l j := by
  rw [h.perm.mem_iff]
  simp [eq_comm]
theorem total (mod : Int) : HeapPlain.Total (AH mod) := HeapPlain.total_rank (rank mod)
theorem Heaped.push {l : List Int} {mod : Int} {k : Nat} {es : List ((Int × Int) × Int)} (h : Heaped l mod k es) : Heaped l mod (k + 1) (HeapPlain.push HP.d (AH mod) es (ent l k)) := by
  refine ⟨(HeapPlain.push_perm HP.d (AH mod) es (ent l k)).trans ?_, HeapPlain.push_ordered (total mod) h.ord _⟩
  rw [List.range_succ, List.map_append]
  exact ((h.perm.cons _).trans (List.perm_append_comm (l₁ := [ent l k])))
theorem least {mod : Int} {es : List ((Int × Int) × Int)} (h : HeapPlain.Ordered HP.d (AH mod) es) {e : (Int × Int) × Int} (he : e ∈ es) : AH mod e (es.getD 0 HP.d) = false := by
  obtain ⟨i, hi, rfl⟩ := List.getElem_of_mem he
  have := HeapPlain.ordered_least (total mod) h i hi
  rw [List.getD_eq_getElem?_getD, List.getElem?_eq_getElem hi] at this
  exact this
theorem head_mem {es : List ((Int × Int) × Int)} (h : 0 < es.length) : es.getD 0 HP.d ∈ es := by
  cases es with
  | nil => simp at h
  | cons x t => simp
/-- What the first thing is, behind a push. -/
theorem Heaped.head {l : List Int} {mod : Int} {k : Nat} {es : List ((Int × Int) × Int)} (h : Heaped l mod (k + 1) es) : ∃ j, j ≤ k ∧ es.getD 0 HP.d = ent l j ∧ key (l.getD j 0) mod ≤ key (l.getD k 0) mod := by
  have hl : 0 < es.length := by rw [h.len]; omega
  obtain ⟨j, hj, he⟩ := h.mem.1 (head_mem hl)
  have h1 := least h.ord (h.mem.2 ⟨k, by omega, rfl⟩)
  rw [he, HeapPlain.ahead_rank_false] at h1
  refine ⟨j, by omega, he, ?_⟩
  simp only [rank, ent] at h1
  omega
structure Popping (l : List Int) (mod : Int) (k : Nat) (es : List ((Int × Int) × Int)) (q : Int × Int) (flags : List Bool) : Prop where
  len : es.length + k = l.length
  flen : flags.length = l.length
  ord : HeapPlain.Ordered HP.d (AH mod) es
  mem : ∀ e ∈ es, ∃ j, j < l.length ∧ e = ent l j ∧ flags.getD j true = false
  nodup : es.Nodup
  last : 0 < k → ∀ e ∈ es, key q.1 mod < key e.1.1 mod ∨ (key q.1 mod = key e.1.1 mod ∧ q.2 < e.1.2)
theorem Heaped.start {l : List Int} {mod : Int} {es : List ((Int × Int) × Int)} (h : Heaped l mod l.length es) (q : Int × Int) : Popping l mod 0 es q (List.replicate l.length false) := by
  refine ⟨by rw [h.len]; rfl, by simp, h.ord, ?_, ?_, by omega⟩
  · intro e he
    obtain ⟨j, hj, rfl⟩ := h.mem.1 he
    refine ⟨j, hj, rfl, ?_⟩
    simp [List.getD_eq_getElem?_getD, List.getElem?_replicate, hj]
  · rw [h.perm.nodup_iff]
    refine List.Pairwise.map _ ?_ List.nodup_range
    intro a b hab heq
    simp only [ent, Prod.mk.injEq] at heq
    omega
theorem Popping.pop {l : List Int} {mod : Int} {k : Nat} {es : List ((Int × Int) × Int)} {q : Int × Int} {flags : List Bool} (h : Popping l mod k es q flags) (hk : k < l.length) :
    ∃ j, j < l.length ∧ es.getD 0 HP.d = ent l j ∧ flags.getD j true = false ∧ (0 < k → key q.1 mod < key (l.getD j 0) mod ∨ (key q.1 mod = key (l.getD j 0) mod ∧ q.2 < (j : Int))) ∧
      Popping l mod (k + 1) (HeapPlain.popped HP.d (AH mod) es) (l.getD j 0, (j : Int)) (flags.set j true) := by
  have hl : 0 < es.length := by have := h.len; omega
  obtain ⟨j, hj, he, hf⟩ := h.mem _ (head_mem hl)
  have hlast := fun hk => h.last hk _ (head_mem hl)
  obtain ⟨x, t, rfl⟩ : ∃ x t, es = x :: t := by
    cases es with
    | nil => simp at hl
    | cons x t => exact ⟨x, t, rfl⟩
  have hx : (x :: t).getD 0 HP.d = x := rfl
  rw [hx] at he hlast
  subst he
  have hp := HeapPlain.popped_perm HP.d (AH mod) (ent l j) t
  have hnd := List.nodup_cons.1 h.nodup
  refine ⟨j, hj, rfl, hf, hlast, ?_, by simpa using h.flen, HeapPlain.popped_ordered (total mod) h.ord, ?_, ?_, ?_⟩
  · have h1 := h.len
    rw [hp.length_eq]
    simp only [List.length_cons] at h1
    omega
  · intro e he
    have he := hp.mem_iff.1 he
    obtain ⟨i, hi, rfl, hfi⟩ := h.mem e (List.mem_cons_of_mem _ he)
    refine ⟨i, hi, rfl, ?_⟩
    have hij : i ≠ j := fun e2 => hnd.1 (e2 ▸ he)
    rw [List.getD_eq_getElem?_getD, List.getElem?_set_ne (Ne.symm hij), ← List.getD_eq_getElem?_getD]
    exact hfi
  · rw [hp.nodup_iff]; exact hnd.2
  · intro _ e he
    have he := hp.mem_iff.1 he
    have h1 := least h.ord (List.mem_cons_of_mem _ he)
    rw [hx, HeapPlain.ahead_rank_false] at h1
    obtain ⟨i, hi, rfl, hfi⟩ := h.mem e (List.mem_cons_of_mem _ he)
    have hij : i ≠ j := fun e2 => hnd.1 (e2 ▸ he)
    simp only [rank, ent] at h1 ⊢
    omega
end LS
end Go.Proofs.Ytebahglmdifmpaa
