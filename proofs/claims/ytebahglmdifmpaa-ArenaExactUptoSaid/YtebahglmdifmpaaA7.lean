/- A new memory and a new arena as owned pieces; facts of the pieces. -/
import Derived.Test.YtebahglmdifmpaaY4
import Derived.Test.YtebahglmdifmpaaA4
set_option linter.unusedVariables false
set_option linter.unusedSimpArgs false
set_option maxRecDepth 10000
namespace Go.Proofs.Ytebahglmdifmpaa
open Go Go.Proofs.Ytebahglmdifmpaa.Vc
namespace PA
def memC (m g : Nat) (ws : List Int) (tr : Value) (bad : Int) : Chunk where
  holds w F := F = [m, g] ∧ CM.MemAt w m g ws tr bad
  fr h hf hS := ⟨h.1, h.2.fr hf (hS _ (by simp [h.1])) (hS _ (by simp [h.1]))⟩
  lt h x hx := by
    have := h.2.lt
    rw [h.1] at hx
    simp at hx
    omega
section
variable {S : List Nat} {w0 w : World} {K : List Chunk}
theorem newMem (h : St S w0 w K) {n : Nat} (h1 : 1 ≤ n) (h2 : n ≤ 65536) : Calls Try.prog 37 #[.int .i64 (n : Int)] w fun e w' => ∃ m g, e = .returned (.tuple #[.pointer (some ⟨m, 0, none⟩), .int .i64 0]) ∧ St S w0 w' (memC m g (List.replicate n 0) (.slice none 0 0) 0 :: K) := by
  refine Calls.mono (CM.new (w := w) h1 h2) ?_
  rintro e w' ⟨m, g, rfl, hM, hF, hm, hg⟩
  exact ⟨m, g, rfl, h.new hF (F := [m, g]) ⟨rfl, hM⟩ (by simp; omega)⟩
theorem newArena {mb gb : Nat} {ws : List Int} {tr : Value} {bad : Int} (h : St S w0 w (memC mb gb ws tr bad :: K)) {st : Nat} (hst : st < ws.length) (hlen : ws.length ≤ 4000) :
    Calls Try.prog 38 #[.pointer (some ⟨mb, 0, none⟩), .int .i64 (st : Int)] w fun e w' => ∃ a, e = .returned (.tuple #[.pointer (some ⟨a, 0, none⟩), .int .i64 0]) ∧ St S w0 w' (arC a mb gb tr bad st ws [((st : Int), ((ws.length - st : Nat) : Int), true)] 1 :: K) := by
  obtain ⟨F, hM, _, hk⟩ := h.at 0 rfl
  refine Calls.mono (AR.new hM.2 hst (by omega)) ?_
  rintro e w' ⟨a, F', rfl, hA, hF, hF'⟩
  refine ⟨a, rfl, ?_⟩
  refine hk (c' := arC a mb gb tr bad st ws [((st : Int), ((ws.length - st : Nat) : Int), true)] 1) (F' := F') (hF.mono (by simp)) ⟨(_, _, _), ⟨⟨by simp [frees], ?_⟩, by simp [takens], ⟨rfl, by simp only; omega, by show (st : Int) + ((ws.length - st : Nat) : Int) = _; omega⟩, trivial, by simp, by simp⟩, hA⟩ ?_
  · intro i h1 h2
    simp only [List.length_cons, List.length_nil] at h2
    omega
  · intro x hx
    rw [hM.1]
    rcases hF' x hx with h | h | h
    · exact .inl (by simp [h])
    · exact .inl (by simp [h])
    · exact .inr h
theorem okS {a mb gb : Nat} {tr : Value} {bad st : Int} {ws : List Int} {L : List B} {k : Nat} (h : St S w0 w K) (i : Nat) (hi : K[i]? = some (arC a mb gb tr bad st ws L k)) : Tiled st ws.length L ∧ Apart L := by
  obtain ⟨F, ⟨⟨es, came, out⟩, hO, hA⟩, _⟩ := h.at i hi
  exact ⟨hO.tiled, hO.apart⟩
end
theorem wordsT_len (n : Int) (L : List B) (ws : List Int) : (wordsT n L ws).length = ws.length := by
  unfold wordsT
  split
  · rfl
  · split
    · rfl
    · rw [CM.fillN_length]
theorem wordsG_len (n : Int) (L : List B) (ws : List Int) : (wordsG n L ws).length = ws.length := by
  unfold wordsG
  split
  · rfl
  · rw [CM.fillN_length]
/-- All is free: one piece. -/
theorem one_free {L : List B} {st e : Int} (ht : Tiled st e L) (ha : Apart L) (hn : takens L = []) (hlt : st < e) : L = [(st, e - st, true)] := by
  have hall : ∀ b ∈ L, b.2.2 = true := by
    intro b hb
    rcases hc : b.2.2 with _ | _
    · have : (b.1, b.2.1) ∈ takens L := List.mem_map.2 ⟨b, List.mem_filter.2 ⟨hb, by simp [hc]⟩, rfl⟩
      rw [hn] at this; simp at this
    · rfl
  match L, ht, ha, hall with
  | [], ht, _, _ =>
    have : st = e := ht
    omega
  | [b], ⟨h1, h2, h3⟩, _, hall =>
    have h4 : st + b.2.1 = e := h3
    have h5 := hall b (by simp)
    obtain ⟨b1, b2, b3⟩ := b
    simp only at h1 h4 h5
    subst h1; subst h5
    rw [show e - b1 = b2 by omega]
  | b :: c :: L, _, ha, hall => exact absurd ⟨hall b (by simp), hall c (by simp)⟩ ha.1
theorem fillN_get (ws : List Int) (a : Nat) (v : Int) : ∀ (n i : Nat), a + n ≤ ws.length → (CM.fillN ws a v n).getD i 0 = if a ≤ i ∧ i < a + n then v else ws.getD i 0
  | 0, i, _ => by rw [CM.fillN, if_neg (by omega)]
  | n + 1, i, h => by
    rw [CM.fillN]
    have hl : a + n < (CM.fillN ws a v n).length := by rw [CM.fillN_length]; omega
    by_cases hi : i = a + n
    · subst hi
      rw [if_pos (by omega)]
      simp [List.getD_eq_getElem?_getD, hl]
    · have e : ((CM.fillN ws a v n).set (a + n) v).getD i 0 = (CM.fillN ws a v n).getD i 0 := by
        simp [List.getD_eq_getElem?_getD, List.getElem?_set_ne (Ne.symm hi)]
      rw [e, fillN_get ws a v n i (by omega)]
      by_cases h1 : a ≤ i ∧ i < a + n
      · rw [if_pos h1, if_pos (by omega)]
      · rw [if_neg h1, if_neg (by omega)]
end PA
end Go.Proofs.Ytebahglmdifmpaa
