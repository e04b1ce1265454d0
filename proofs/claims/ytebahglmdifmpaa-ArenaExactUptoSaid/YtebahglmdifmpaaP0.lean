/- Pieces of an arena, as a list by address: what Take, Give and the joining of neighbours do to it: lists alone. -/
import Derived.Test.YtebahglmdifmpaaA3
set_option linter.unusedVariables false
set_option linter.unusedSimpArgs false
namespace Go.Proofs.Ytebahglmdifmpaa
open Go Go.Proofs.Ytebahglmdifmpaa.Vc
namespace PA
abbrev B := AR.B
/-- Pieces from a on up to e, without a gap. -/
def Tiled : Int → Int → List B → Prop
  | a, e, [] => a = e
  | a, e, b :: L => b.1 = a ∧ 1 ≤ b.2.1 ∧ Tiled (a + b.2.1) e L
def frees (L : List B) : List B := L.filter (fun b => b.2.2)
def takens (L : List B) : List (Int × Int) := (L.filter (fun b => !b.2.2)).map fun b => (b.1, b.2.1)
/-- No two free ones side by side. -/
def Apart : List B → Prop
  | [] => True
  | [_] => True
  | x :: y :: L => ¬ (x.2.2 = true ∧ y.2.2 = true) ∧ Apart (y :: L)
theorem Tiled.le : ∀ {L : List B} {a e : Int}, Tiled a e L → a ≤ e
  | [], a, e, h => by have : a = e := h; omega
  | b :: L, a, e, ⟨h1, h2, h3⟩ => by have := h3.le; omega
theorem Tiled.mem : ∀ {L : List B} {a e : Int}, Tiled a e L → ∀ b ∈ L, a ≤ b.1 ∧ 1 ≤ b.2.1 ∧ b.1 + b.2.1 ≤ e
  | x :: L, a, e, ⟨h1, h2, h3⟩, b, hb => by
    rcases List.mem_cons.1 hb with rfl | hb
    · have := h3.le; omega
    · have := h3.mem b hb; omega
theorem Tiled.asc : ∀ {L : List B} {a e : Int}, Tiled a e L → L.Pairwise (fun x y => x.1 < y.1)
  | [], _, _, _ => List.Pairwise.nil
  | x :: L, a, e, ⟨h1, h2, h3⟩ => List.pairwise_cons.2 ⟨fun y hy => by have := h3.mem y hy; omega, h3.asc⟩
theorem frees_asc {L : List B} (h : L.Pairwise (fun x y => x.1 < y.1)) : (frees L).Pairwise (fun x y => x.1 < y.1) := h.filter _

/-! ### The heap of the free ones -/
abbrev AH := AR.AH
abbrev dE := AR.dE
abbrev rk (b : B) : Int := b.1
theorem lt_rank : AR.lt = HeapPlain.byRank rk := rfl
structure Free (es : List (B × Int)) (fs : List B) : Prop where
  perm : (es.map (·.1)).Perm fs
  ord : HeapPlain.Ordered dE AH es
theorem total : HeapPlain.Total AH := HeapPlain.total_rank rk
theorem Free.len {es : List (B × Int)} {fs : List B} (h : Free es fs) : es.length = fs.length := by
  have := h.perm.length_eq
  simpa using this
theorem Free.push {es : List (B × Int)} {fs : List B} (h : Free es fs) (b : B) (c : Int) : Free (HeapPlain.push dE AH es (b, c)) (b :: fs) :=
  ⟨((HeapPlain.push_perm dE AH es (b, c)).map _).trans (by simpa using h.perm), HeapPlain.push_ordered total h.ord _⟩
theorem Free.perm' {es : List (B × Int)} {fs gs : List B} (h : Free es fs) (p : fs.Perm gs) : Free es gs := ⟨h.perm.trans p, h.ord⟩
theorem Free.pop {es : List (B × Int)} {b : B} {fs : List B} (h : Free es (b :: fs)) (hb : ∀ x ∈ fs, b.1 < x.1) : (es.getD 0 dE).1 = b ∧ Free (HeapPlain.popped dE AH es) fs := by
  have hl : 0 < es.length := by rw [h.len]; simp
  obtain ⟨x, t, rfl⟩ : ∃ x t, es = x :: t := by
    cases es with
    | nil => simp at hl
    | cons x t => exact ⟨x, t, rfl⟩
  have hx : (x :: t).getD 0 dE = x := rfl
  rw [hx]
  have hbm : b ∈ (x :: t).map (·.1) := h.perm.mem_iff.2 (by simp)
  obtain ⟨e, he, heb⟩ := List.mem_map.1 hbm
  obtain ⟨i, hi, rfl⟩ := List.getElem_of_mem he
  have h1 := HeapPlain.ordered_least total h.ord i hi
  rw [List.getD_eq_getElem?_getD, List.getElem?_eq_getElem hi, hx] at h1
  have h2 := (HeapPlain.ahead_rank_false rk _ _).1 h1
  simp only [Option.getD_some] at h2
  have hxm : x.1 ∈ b :: fs := h.perm.mem_iff.1 (by simp)
  have hxb : x.1 = b := by
    rcases List.mem_cons.1 hxm with hxb | hxm
    · exact hxb
    · have := hb _ hxm
      rw [heb] at h2
      simp only [rk] at h2
      omega
  refine ⟨hxb, ((HeapPlain.popped_perm dE AH x t).map _).trans ?_, HeapPlain.popped_ordered total h.ord⟩
  have hp := h.perm
  rw [List.map_cons, hxb] at hp
  exact (List.perm_cons b).1 hp
theorem Free.nil : Free [] [] := ⟨List.Perm.refl _, by intro i h1 h2; simp at h2⟩
theorem Free.putAll : ∀ {bs : List B} {es : List (B × Int)} {fs : List B} {c : Int}, Free es fs → Free (AR.putAll es c bs) (fs ++ bs)
  | [], es, fs, c, h => by simpa [AR.putAll] using h
  | b :: bs, es, fs, c, h => by
    rw [AR.putAll]
    exact (Free.putAll (h.push b c)).perm' List.perm_middle.symm
/-- The search over the free ones by address. -/
def scanL (n : Int) : List B → List B → List B × List B × Int
  | [], p => ([], p, -1)
  | b :: fs, p => if b.2.1 < n then scanL n fs (p ++ [b]) else if n < b.2.1 then (fs, p ++ [(b.1 + n, b.2.1 - n, true)], b.1) else (fs, p, b.1)
theorem scan_eq (n : Int) : ∀ (k : Nat) (es : List (B × Int)) (fs p : List B), es.length = k → Free es fs → fs.Pairwise (fun x y => x.1 < y.1) →
    (AR.scan n k es p).2 = (scanL n fs p).2 ∧ Free (AR.scan n k es p).1 (scanL n fs p).1
  | 0, es, fs, p, hk, h, hs => by
    have : fs = [] := List.eq_nil_of_length_eq_zero (by rw [← h.len]; exact hk)
    subst this
    exact ⟨rfl, h⟩
  | k + 1, es, fs, p, hk, h, hs => by
    cases fs with
    | nil => have h3 := h.len; rw [hk] at h3; simp at h3
    | cons b fs =>
      obtain ⟨h1, h2⟩ := List.pairwise_cons.1 hs
      obtain ⟨e1, e2⟩ := h.pop h1
      rw [AR.scan, scanL, e1]
      split
      · exact scan_eq n k _ fs _ (by rw [HeapPlain.popped_length]; omega) e2 h2
      · split
        · exact ⟨rfl, e2⟩
        · exact ⟨rfl, e2⟩
theorem drain_eq : ∀ (k : Nat) (es : List (B × Int)) (fs l : List B), es.length = k → Free es fs → fs.Pairwise (fun x y => x.1 < y.1) → AR.drain k es l = fs.foldl AR.merge l
  | 0, es, fs, l, hk, h, hs => by
    have : fs = [] := List.eq_nil_of_length_eq_zero (by rw [← h.len]; exact hk)
    subst this
    rfl
  | k + 1, es, fs, l, hk, h, hs => by
    cases fs with
    | nil => have h3 := h.len; rw [hk] at h3; simp at h3
    | cons b fs =>
      obtain ⟨h1, h2⟩ := List.pairwise_cons.1 hs
      obtain ⟨e1, e2⟩ := h.pop h1
      rw [AR.drain, e1, List.foldl_cons]
      exact drain_eq k _ fs _ (by rw [HeapPlain.popped_length]; omega) e2 h2

/-! ### Neighbours as one -/
def coal : Option B → List B → List B
  | none, [] => []
  | some b, [] => [b]
  | none, y :: L => if y.2.2 = true then coal (some y) L else y :: coal none L
  | some b, y :: L => if y.2.2 = true then coal (some (b.1, b.2.1 + y.2.1, true)) L else b :: y :: coal none L
theorem merge_last {l : List B} {b c : B} (h : IntKind.i64.wrap (b.1 + b.2.1) = c.1) (h2 : IntKind.i64.wrap (b.2.1 + c.2.1) = b.2.1 + c.2.1) : AR.merge (l ++ [b]) c = l ++ [(b.1, b.2.1 + c.2.1, b.2.2)] := by
  have e : (l ++ [b]).getD ((l ++ [b]).length - 1) AR.dB = b := by simp [List.getD_eq_getElem?_getD]
  unfold AR.merge
  rw [e, if_pos ⟨by simp, h⟩, h2]
  simp [List.set_append]
theorem merge_alone {l : List B} {b c : B} (h : IntKind.i64.wrap (b.1 + b.2.1) ≠ c.1) : AR.merge (l ++ [b]) c = l ++ [b] ++ [c] := by
  have e : (l ++ [b]).getD ((l ++ [b]).length - 1) AR.dB = b := by simp [List.getD_eq_getElem?_getD]
  unfold AR.merge
  rw [e, if_neg (fun hh => h hh.2)]
theorem merge_first (c : B) : AR.merge [] c = [c] := by simp [AR.merge]
theorem frees_coal : ∀ (L : List B) (a e : Int), Tiled a e L → 0 ≤ a → e ≤ 4000000000 →
    (∀ acc : List B, (acc = [] ∨ ∃ q b, acc = q ++ [b] ∧ 0 ≤ b.1 ∧ 1 ≤ b.2.1 ∧ b.1 + b.2.1 < a) → (frees L).foldl AR.merge acc = acc ++ frees (coal none L)) ∧
    (∀ (q : List B) (b : B), b.2.2 = true → 0 ≤ b.1 → 1 ≤ b.2.1 → b.1 + b.2.1 = a → (frees L).foldl AR.merge (q ++ [b]) = q ++ frees (coal (some b) L))
  | [], a, e, h, ha, he => by
    refine ⟨fun acc _ => by simp [frees, coal], fun q b hb _ _ _ => by simp [frees, coal, hb]⟩
  | y :: L, a, e, ⟨h1, h2, h3⟩, ha, he => by
    have hle := h3.le
    have ih := frees_coal L (a + y.2.1) e h3 (by omega) he
    have hw : ∀ z : Int, 0 ≤ z → z ≤ 4000000000 → IntKind.i64.wrap z = z := fun z h1 h2 => i64_id (by omega) (by omega)
    constructor
    · intro acc hacc
      rw [coal]
      split
      · rename_i hy
        have hf : frees (y :: L) = y :: frees L := by simp [frees, hy]
        rw [hf, List.foldl_cons]
        rcases hacc with rfl | ⟨q, b, rfl, hb0, hb1, hb2⟩
        · rw [merge_first]
          have := ih.2 [] y hy (by omega) h2 (by omega)
          simpa using this
        · rw [merge_alone (by rw [hw _ (by omega) (by omega)]; omega)]
          have := ih.2 (q ++ [b]) y hy (by omega) h2 (by omega)
          simpa using this
      · rename_i hy
        have hf : frees (y :: L) = frees L := by simp [frees, hy]
        have hf2 : frees (y :: coal none L) = frees (coal none L) := by simp [frees, hy]
        rw [hf, hf2]
        refine ih.1 acc ?_
        rcases hacc with rfl | ⟨q, b, rfl, hb0, hb1, hb2⟩
        · exact .inl rfl
        · exact .inr ⟨q, b, rfl, hb0, hb1, by omega⟩
    · intro q b hb hb0 hb1 hb2
      rw [coal]
      split
      · rename_i hy
        have hf : frees (y :: L) = y :: frees L := by simp [frees, hy]
        rw [hf, List.foldl_cons, merge_last (by rw [hw _ (by omega) (by omega)]; omega) (hw _ (by omega) (by omega)), hb]
        exact ih.2 q (b.1, b.2.1 + y.2.1, true) rfl hb0 (by simp only; omega) (by simp only; omega)
      · rename_i hy
        have hf : frees (y :: L) = frees L := by simp [frees, hy]
        have hf2 : frees (b :: y :: coal none L) = b :: frees (coal none L) := by simp [frees, hy, hb]
        rw [hf, hf2]
        have := ih.1 (q ++ [b]) (.inr ⟨q, b, rfl, hb0, hb1, by omega⟩)
        simpa using this
theorem coal_tiled : ∀ (L : List B) (a e : Int), Tiled a e L → Tiled a e (coal none L) ∧ ∀ b : B, 1 ≤ b.2.1 → b.1 + b.2.1 = a → Tiled b.1 e (coal (some b) L)
  | [], a, e, h => ⟨h, fun b hb hb2 => ⟨rfl, hb, by have : a = e := h; show b.1 + b.2.1 = e; omega⟩⟩
  | y :: L, a, e, ⟨h1, h2, h3⟩ => by
    have ih := coal_tiled L (a + y.2.1) e h3
    constructor
    · rw [coal]
      split
      · have := ih.2 y h2 (by omega)
        rw [h1] at this; exact this
      · exact ⟨h1, h2, ih.1⟩
    · intro b hb hb2
      rw [coal]
      split
      · exact ih.2 (b.1, b.2.1 + y.2.1, true) (by simp only; omega) (by simp only; omega)
      · exact ⟨rfl, hb, by omega, h2, by rw [hb2]; exact ih.1⟩
theorem coal_takens : ∀ (L : List B), takens (coal none L) = takens L ∧ ∀ b : B, b.2.2 = true → takens (coal (some b) L) = takens L
  | [] => ⟨rfl, fun b hb => by simp [coal, takens, hb]⟩
  | y :: L => by
    have ih := coal_takens L
    constructor
    · rw [coal]
      split
      · rename_i hy
        rw [ih.2 y hy]; simp [takens, hy]
      · rename_i hy
        have := ih.1
        simp [takens, hy] at this ⊢
        exact this
    · intro b hb
      rw [coal]
      split
      · rename_i hy
        rw [ih.2 _ rfl]; simp [takens, hy]
      · rename_i hy
        have := ih.1
        simp [takens, hy, hb] at this ⊢
        exact this
theorem coal_apart : ∀ (L : List B), (Apart (coal none L) ∧ ∀ y : B, y.2.2 = false → Apart (y :: coal none L)) ∧ ∀ b : B, b.2.2 = true → Apart (coal (some b) L) ∧ ∀ y : B, y.2.2 = false → Apart (y :: coal (some b) L)
  | [] => ⟨⟨trivial, fun _ _ => trivial⟩, fun b hb => ⟨trivial, fun y hy => ⟨by simp [hy], trivial⟩⟩⟩
  | y :: L => by
    have ih := coal_apart L
    constructor
    · by_cases hy : y.2.2 = true
      · simp only [coal, if_pos hy]
        exact ih.2 y hy
      · simp only [coal, if_neg hy]
        have hy' : y.2.2 = false := by simpa using hy
        exact ⟨ih.1.2 y hy', fun z hz => ⟨by simp [hz], ih.1.2 y hy'⟩⟩
    · intro b hb
      by_cases hy : y.2.2 = true
      · simp only [coal, if_pos hy]
        exact ih.2 _ rfl
      · simp only [coal, if_neg hy]
        have hy' : y.2.2 = false := by simpa using hy
        exact ⟨⟨by simp [hy'], ih.1.2 y hy'⟩, fun z hz => ⟨by simp [hz], by simp [hy'], ih.1.2 y hy'⟩⟩
theorem coal_id : ∀ (L : List B), (Apart L → coal none L = L) ∧ ∀ b : B, Apart (b :: L) → b.2.2 = true → coal (some b) L = b :: L
  | [] => ⟨fun _ => rfl, fun _ _ _ => rfl⟩
  | y :: L => by
    have ih := coal_id L
    have tl : Apart (y :: L) → Apart L := by
      intro h
      cases L with
      | nil => trivial
      | cons z L => exact h.2
    constructor
    · intro h
      rw [coal]
      split
      · rename_i hy
        exact ih.2 y h hy
      · rw [ih.1 (tl h)]
    · intro b h hb
      rw [coal]
      split
      · rename_i hy
        exact absurd ⟨hb, hy⟩ h.1
      · rw [ih.1 (tl h.2)]
end PA
end Go.Proofs.Ytebahglmdifmpaa
