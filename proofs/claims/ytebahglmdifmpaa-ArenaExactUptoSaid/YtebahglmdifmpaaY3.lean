/- Blocks: all pieces of an arena, by address, as a new list. -/
import Derived.Test.YtebahglmdifmpaaY1
import Derived.Test.YtebahglmdifmpaaY2
set_option linter.unusedVariables false
set_option linter.unusedSimpArgs false
set_option maxRecDepth 10000
namespace Go.Proofs.Ytebahglmdifmpaa.Vc
open Go Go.MapKept
/-- What a contract tells of one piece's blocks, within a larger whole: new pieces come in front. -/
theorem St.graft {S : List Nat} {w0 w : World} {K : List Chunk} (h : St S w0 w K) (i : Nat) {c : Chunk} (hi : K[i]? = some c) : ∃ F, c.holds w F ∧ ∀ {w' : World} {c' : Chunk} {M : List Chunk}, St F w w' (c' :: M) → St S w0 w' (M ++ K.set i c') := by
  obtain ⟨h1, Fs, h2, h3⟩ := h
  have hil : i < K.length := by
    rcases Nat.lt_or_ge i K.length with h | h
    · exact h
    · rw [List.getElem?_eq_none h] at hi; cases hi
  have hlt : ∀ j, j < K.length → ∀ x ∈ Fs j, x < w.heap.size := by
    intro j hj x hx
    exact (K[j]).lt (h2 j K[j] (List.getElem?_eq_getElem hj)).1 x hx
  refine ⟨Fs i, (h2 i c hi).1, ?_⟩
  rintro w' c' M ⟨g1, Gs, g2, g3⟩
  have hS : ∀ x, (x ∈ Fs i ∨ w.heap.size ≤ x) → x ∈ S ∨ w0.heap.size ≤ x := by
    intro x hx
    rcases hx with hx | hx
    · exact (h2 i c hi).2 x hx
    · exact .inr (Nat.le_trans h1.1 hx)
  have hG : ∀ q, q < (c' :: M).length → ∀ x ∈ Gs q, x ∈ Fs i ∨ w.heap.size ≤ x := by
    intro q hq x hx
    exact (g2 q _ (List.getElem?_eq_getElem hq)).2 x hx
  refine ⟨h1.trans' g1 (fun x hx hl => (hS x (.inl hx)).resolve_right (by omega)), fun j => if j < M.length then Gs (j + 1) else if j - M.length = i then Gs 0 else Fs (j - M.length), ?_, ?_⟩
  · intro j d hd
    dsimp only
    by_cases hj : j < M.length
    · rw [if_pos hj]
      rw [List.getElem?_append_left hj] at hd
      have := g2 (j + 1) d (by simpa using hd)
      exact ⟨this.1, fun x hx => hS x (this.2 x hx)⟩
    · rw [if_neg hj]
      rw [List.getElem?_append_right (by omega)] at hd
      by_cases hq : j - M.length = i
      · rw [if_pos hq]
        rw [hq, List.getElem?_set_self hil] at hd
        injection hd with hd
        subst hd
        have := g2 0 c' rfl
        exact ⟨this.1, fun x hx => hS x (this.2 x hx)⟩
      · rw [if_neg hq]
        rw [List.getElem?_set_ne (Ne.symm hq)] at hd
        have hql : j - M.length < K.length := (List.getElem?_eq_some_iff.1 hd).1
        exact ⟨d.fr (h2 _ d hd).1 g1 (fun x hx hx2 => h3 _ i hql hil hq x hx hx2), (h2 _ d hd).2⟩
  · have out : ∀ p q, p < (c' :: M).length → q < K.length → q ≠ i → ∀ x ∈ Gs p, x ∉ Fs q := by
      intro p q hp hq hqi x hx hx2
      rcases hG p hp x hx with h | h
      · exact h3 q i hq hil hqi x hx2 h
      · have := hlt q hq x hx2; omega
    intro j k hj hk hjk x hx hx2
    dsimp only at hx hx2
    simp only [List.length_append, List.length_set] at hj hk
    by_cases ej : j < M.length
    · rw [if_pos ej] at hx
      by_cases ek : k < M.length
      · rw [if_pos ek] at hx2
        exact g3 (j + 1) (k + 1) (by simp; omega) (by simp; omega) (by omega) x hx hx2
      · rw [if_neg ek] at hx2
        by_cases eq : k - M.length = i
        · rw [if_pos eq] at hx2
          exact g3 (j + 1) 0 (by simp; omega) (by simp) (by omega) x hx hx2
        · rw [if_neg eq] at hx2
          exact out (j + 1) _ (by simp; omega) (by omega) eq x hx hx2
    · rw [if_neg ej] at hx
      by_cases ek : k < M.length
      · rw [if_pos ek] at hx2
        by_cases eq : j - M.length = i
        · rw [if_pos eq] at hx
          exact g3 0 (k + 1) (by simp) (by simp; omega) (by omega) x hx hx2
        · rw [if_neg eq] at hx
          exact out (k + 1) _ (by simp; omega) (by omega) eq x hx2 hx
      · rw [if_neg ek] at hx2
        by_cases eq : j - M.length = i
        · rw [if_pos eq] at hx
          by_cases eq2 : k - M.length = i
          · omega
          · rw [if_neg eq2] at hx2
            exact out 0 _ (by simp) (by omega) eq2 x hx hx2
        · rw [if_neg eq] at hx
          by_cases eq2 : k - M.length = i
          · rw [if_pos eq2] at hx2
            exact out 0 _ (by simp) (by omega) eq x hx2 hx
          · rw [if_neg eq2] at hx2
            exact h3 _ _ (by omega) (by omega) (by omega) x hx hx2
theorem St.mk2 {F F1 F2 : List Nat} {w w' : World} {c d : Chunk} (hf : Fr F w w') (h1 : c.holds w' F1) (h2 : d.holds w' F2) (k1 : ∀ x ∈ F1, x ∈ F ∨ w.heap.size ≤ x) (k2 : ∀ x ∈ F2, x ∈ F ∨ w.heap.size ≤ x) (hd : ∀ x ∈ F1, x ∉ F2) : St F w w' [c, d] := by
  refine ⟨hf, fun i => if i = 0 then F1 else F2, ?_, ?_⟩
  · intro i e he
    match i with
    | 0 => simp at he; subst he; exact ⟨h1, k1⟩
    | 1 => simp at he; subst he; exact ⟨h2, k2⟩
    | i + 2 => simp at he
  · intro i j hi hj hij x hx hx2
    simp only [List.length_cons, List.length_nil] at hi hj
    rcases (show i = 0 ∨ i = 1 by omega) with rfl | rfl <;> rcases (show j = 0 ∨ j = 1 by omega) with rfl | rfl <;> simp at hij hx hx2
    · exact hd x hx hx2
    · exact hd x hx2 hx
theorem map_get {P : Program} {w : World} {r : Nat} {l : List (Int × Int)} {t kt et : TypeId} {i : TypeInfo} (ht : P.underlying t = some (.map kt et)) (hk : P.underlying kt = some (.int .i64)) (hi : P.info? et = some i) (hz : i.zero = some (.int .i64 0)) (h : MapIs w r l) (k : Int) :
    (Instr.lookup t (.map (some r)) (.int .i64 k) false).run P w = .ok (.int .i64 (getM l k)) w := by
  obtain ⟨es, c, h, h2, _⟩ := h
  have hf := run_findKey (w := w) hk (findNow_ints k es.toList l 0 h2)
  simp only [Instr.lookup, Sem.run_bind, run_underlying ht, Result.andThen_ok, Go.MapKept.run_getObj_map h, Sem.run_pure, Go.MapKept.run_checkKey hk (key_int k), hf]
  cases hx : idxM l k with
  | none => simp [hx, getM, zeroValue, typeInfo, hi, hz]
  | some j => simp [hx, getM]
end Go.Proofs.Ytebahglmdifmpaa.Vc
