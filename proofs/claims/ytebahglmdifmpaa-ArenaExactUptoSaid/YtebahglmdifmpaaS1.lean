/- Pieces of memory, put together and taken apart. -/
import Derived.Test.YtebahglmdifmpaaS0
set_option linter.unusedVariables false
set_option linter.unusedSimpArgs false
namespace Go.Proofs.Ytebahglmdifmpaa.Vc
open Go

/-- Two pieces as one. -/
def Chunk.star (c d : Chunk) : Chunk where
  holds w F := ∃ F1 F2, F = F1 ++ F2 ∧ c.holds w F1 ∧ d.holds w F2 ∧ ∀ x ∈ F1, x ∉ F2
  fr h hf hS := by
    obtain ⟨F1, F2, rfl, h1, h2, h3⟩ := h
    exact ⟨F1, F2, rfl, c.fr h1 hf (fun x hx => hS x (by simp [hx])), d.fr h2 hf (fun x hx => hS x (by simp [hx])), h3⟩
  lt h x hx := by
    obtain ⟨F1, F2, rfl, h1, h2, h3⟩ := h
    rcases List.mem_append.1 hx with hx | hx
    · exact c.lt h1 x hx
    · exact d.lt h2 x hx
/-- One of many. -/
def Chunk.ex {α : Type} (f : α → Chunk) : Chunk where
  holds w F := ∃ a, (f a).holds w F
  fr h hf hS := by obtain ⟨a, h⟩ := h; exact ⟨a, (f a).fr h hf hS⟩
  lt h x hx := by obtain ⟨a, h⟩ := h; exact (f a).lt h x hx
/-- A fact beside. -/
def Chunk.fact (p : Prop) (c : Chunk) : Chunk where
  holds w F := p ∧ c.holds w F
  fr h hf hS := ⟨h.1, c.fr h.2 hf hS⟩
  lt h x hx := c.lt h.2 x hx
/-- Nothing. -/
def Chunk.emp : Chunk where
  holds w F := F = []
  fr h hf hS := h
  lt h x hx := by rw [h] at hx; simp at hx

section
variable {S : List Nat} {w0 w w' : World} {L : List Chunk}
/-- The piece at i is seen in another way. -/
theorem St.as (h : St S w0 w L) (i : Nat) {c : Chunk} (hi : L[i]? = some c) (c' : Chunk) (hc : ∀ F, c.holds w F → c'.holds w F) : St S w0 w (L.set i c') := by
  obtain ⟨F, h1, _, h2⟩ := h.at i hi
  exact h2 (Fr.refl _ _) (hc F h1) (fun x hx => .inl hx)
theorem St.unfact (h : St S w0 w L) (i : Nat) {p : Prop} {c : Chunk} (hi : L[i]? = some (Chunk.fact p c)) : p ∧ St S w0 w (L.set i c) := by
  obtain ⟨F, h1, _, h2⟩ := h.at i hi
  exact ⟨h1.1, h2 (Fr.refl _ _) h1.2 (fun x hx => .inl hx)⟩
theorem St.unex (h : St S w0 w L) (i : Nat) {α : Type} {f : α → Chunk} (hi : L[i]? = some (Chunk.ex f)) : ∃ a, St S w0 w (L.set i (f a)) := by
  obtain ⟨F, ⟨a, h1⟩, _, h2⟩ := h.at i hi
  exact ⟨a, h2 (Fr.refl _ _) h1 (fun x hx => .inl hx)⟩
/-- The piece in front is two. -/
theorem St.split {c d : Chunk} (h : St S w0 w (Chunk.star c d :: L)) : St S w0 w (c :: d :: L) := by
  obtain ⟨h1, Fs, h2, h3⟩ := h
  obtain ⟨⟨F1, F2, e, k1, k2, k3⟩, k4⟩ := h2 0 _ rfl
  have q1 : ∀ x ∈ F1, x ∈ Fs 0 := fun x hx => by rw [e]; simp [hx]
  have q2 : ∀ x ∈ F2, x ∈ Fs 0 := fun x hx => by rw [e]; simp [hx]
  refine ⟨h1, fun i => match i with | 0 => F1 | 1 => F2 | i + 2 => Fs (i + 1), ?_, ?_⟩
  · intro i b hb
    match i with
    | 0 => simp at hb; subst hb; exact ⟨k1, fun x hx => k4 x (q1 x hx)⟩
    | 1 => simp at hb; subst hb; exact ⟨k2, fun x hx => k4 x (q2 x hx)⟩
    | i + 2 => exact h2 (i + 1) b (by simpa using hb)
  · intro i j hi hj hij x hx hx2
    simp only [List.length_cons] at hi hj
    match i, j with
    | 0, 0 => exact hij rfl
    | 1, 1 => exact hij rfl
    | 0, 1 => exact k3 x hx hx2
    | 1, 0 => exact k3 x hx2 hx
    | 0, j + 2 => exact h3 0 (j + 1) (by simp) (by simp; omega) (by omega) x (q1 x hx) hx2
    | 1, j + 2 => exact h3 0 (j + 1) (by simp) (by simp; omega) (by omega) x (q2 x hx) hx2
    | i + 2, 0 => exact h3 0 (i + 1) (by simp) (by simp; omega) (by omega) x (q1 x hx2) hx
    | i + 2, 1 => exact h3 0 (i + 1) (by simp) (by simp; omega) (by omega) x (q2 x hx2) hx
    | i + 2, j + 2 => exact h3 (i + 1) (j + 1) (by simp; omega) (by simp; omega) (by omega) x hx hx2
theorem St.join {c d : Chunk} (h : St S w0 w (c :: d :: L)) : St S w0 w (Chunk.star c d :: L) := by
  obtain ⟨h1, Fs, h2, h3⟩ := h
  obtain ⟨k1, k2⟩ := h2 0 _ rfl
  obtain ⟨k3, k4⟩ := h2 1 _ rfl
  refine ⟨h1, fun i => match i with | 0 => Fs 0 ++ Fs 1 | i + 1 => Fs (i + 2), ?_, ?_⟩
  · intro i b hb
    match i with
    | 0 =>
      simp at hb; subst hb
      refine ⟨⟨Fs 0, Fs 1, rfl, k1, k3, fun x hx => h3 0 1 (by simp) (by simp) (by omega) x hx⟩, fun x hx => ?_⟩
      rcases List.mem_append.1 hx with hx | hx
      · exact k2 x hx
      · exact k4 x hx
    | i + 1 => exact h2 (i + 2) b (by simpa using hb)
  · have out : ∀ j, j + 1 < (Chunk.star c d :: L).length → ∀ x ∈ Fs 0 ++ Fs 1, x ∉ Fs (j + 2) := by
      intro j hj x hx hx2
      simp at hj
      rcases List.mem_append.1 hx with hx | hx
      · exact h3 0 (j + 2) (by simp) (by simp; omega) (by omega) x hx hx2
      · exact h3 1 (j + 2) (by simp) (by simp; omega) (by omega) x hx hx2
    intro i j hi hj hij x hx hx2
    match i, j with
    | 0, 0 => exact hij rfl
    | 0, j + 1 => exact out j hj x hx hx2
    | i + 1, 0 => exact out i hi x hx2 hx
    | i + 1, j + 1 => exact h3 (i + 2) (j + 2) (by simp at hi ⊢; omega) (by simp at hj ⊢; omega) (by omega) x hx hx2
/-- The piece at i comes to the front; the one in front goes there. -/
theorem St.swap (h : St S w0 w L) (i j : Nat) {c d : Chunk} (hi : L[i]? = some c) (hj : L[j]? = some d) : St S w0 w ((L.set i d).set j c) := by
  have inb : ∀ {i : Nat} {c : Chunk}, L[i]? = some c → i < L.length := by
    intro i c hi
    rcases Nat.lt_or_ge i L.length with h | h
    · exact h
    · rw [List.getElem?_eq_none h] at hi; cases hi
  have hil := inb hi
  have hjl := inb hj
  refine h.pick _ (fun k => if k = j then i else if k = i then j else k) ?_ ?_
  · intro k e hk
    by_cases e1 : k = j
    · rw [if_pos e1]
      subst e1
      rw [List.getElem?_set_self (by simpa using hjl)] at hk
      rw [hi]; exact hk
    · rw [if_neg e1]
      rw [List.getElem?_set_ne (Ne.symm e1)] at hk
      by_cases e2 : k = i
      · rw [if_pos e2]
        subst e2
        rw [List.getElem?_set_self hil] at hk
        rw [hj]; exact hk
      · rw [if_neg e2]
        rw [List.getElem?_set_ne (Ne.symm e2)] at hk
        exact hk
  · intro a b _ _ hab
    by_cases a1 : a = j <;> by_cases b1 : b = j <;> by_cases a2 : a = i <;> by_cases b2 : b = i <;> simp_all
theorem perm_map {α : Type} {l l' : List α} (p : l.Perm l') : ∃ σ : Nat → Nat, (∀ i c, l'[i]? = some c → l[σ i]? = some c) ∧ ∀ i j, i < l'.length → j < l'.length → σ i = σ j → i = j := by
  induction p with
  | nil => exact ⟨id, by simp, by simp⟩
  | cons x p ih =>
    obtain ⟨σ, h1, h2⟩ := ih
    refine ⟨fun i => match i with | 0 => 0 | i + 1 => σ i + 1, ?_, ?_⟩
    · intro i c hc
      cases i with
      | zero => simpa using hc
      | succ i => simpa using h1 i c (by simpa using hc)
    · intro i j hi hj h
      cases i with
      | zero =>
        cases j with
        | zero => rfl
        | succ j => simp at h
      | succ i =>
        cases j with
        | zero => simp at h
        | succ j => simp at h hi hj; rw [h2 i j hi hj h]
  | swap x y l =>
    refine ⟨fun i => match i with | 0 => 1 | 1 => 0 | i + 2 => i + 2, ?_, ?_⟩
    · intro i c hc
      match i, hc with
      | 0, hc => simpa using hc
      | 1, hc => simpa using hc
      | i + 2, hc => simpa using hc
    · intro i j hi hj h
      match i, j, h with
      | 0, 0, _ => rfl
      | 1, 1, _ => rfl
      | 0, 1, h => simp at h
      | 1, 0, h => simp at h
      | 0, j + 2, h => simp at h
      | 1, j + 2, h => simp at h
      | i + 2, 0, h => simp at h
      | i + 2, 1, h => simp at h
      | i + 2, j + 2, h => simpa using h
  | trans p q ih1 ih2 =>
    obtain ⟨σ, h1, h2⟩ := ih1
    obtain ⟨τ, h3, h4⟩ := ih2
    refine ⟨fun i => σ (τ i), fun i c hc => h1 _ _ (h3 i c hc), fun i j hi hj h => h4 i j hi hj (h2 _ _ ?_ ?_ h)⟩
    · exact (List.getElem?_eq_some_iff.1 (h3 i _ (List.getElem?_eq_getElem hi))).1
    · exact (List.getElem?_eq_some_iff.1 (h3 j _ (List.getElem?_eq_getElem hj))).1
theorem St.perm (h : St S w0 w L) {L' : List Chunk} (p : L.Perm L') : St S w0 w L' := by
  obtain ⟨σ, h1, h2⟩ := perm_map p
  exact h.pick L' σ h1 h2
/-- The pieces at some places. -/
theorem St.sel (h : St S w0 w L) (idx : List Nat) (hnd : idx.Nodup) (L' : List Chunk) (hL : L'.map some = idx.map fun i => L[i]?) : St S w0 w L' := by
  have hlen : L'.length = idx.length := by simpa using congrArg List.length hL
  refine h.pick L' (fun i => idx.getD i 0) ?_ ?_
  · intro i c hc
    have hi : i < L'.length := (List.getElem?_eq_some_iff.1 hc).1
    have e := congrArg (fun l => l[i]?) hL
    have hi2 : i < idx.length := by omega
    simp only [List.getElem?_map, hc, Option.map_some] at e
    rw [List.getElem?_eq_getElem hi2, Option.map_some] at e
    rw [List.getD_eq_getElem?_getD, List.getElem?_eq_getElem hi2]
    exact (Option.some.inj e).symm
  · intro i j hi hj h
    have hi2 : i < idx.length := by omega
    have hj2 : j < idx.length := by omega
    simp only [List.getD_eq_getElem?_getD, List.getElem?_eq_getElem hi2, List.getElem?_eq_getElem hj2, Option.getD_some] at h
    have hp := List.pairwise_iff_getElem.1 hnd
    rcases Nat.lt_trichotomy i j with h1 | h1 | h1
    · exact absurd h (hp i j hi2 hj2 h1)
    · exact h1
    · exact absurd h.symm (hp j i hj2 hi2 h1)
/-- Each piece is seen in another way. -/
theorem St.weak (h : St S w0 w L) (L' : List Chunk) (hl : L'.length = L.length) (hi : ∀ (i : Nat) (h : i < L.length) (h' : i < L'.length), ∀ F, (L[i]).holds w F → (L'[i]).holds w F) : St S w0 w L' := by
  obtain ⟨h1, Fs, h2, h3⟩ := h
  refine ⟨h1, Fs, fun i c hc => ?_, fun i j h4 h5 => h3 i j (by omega) (by omega)⟩
  obtain ⟨hi1, rfl⟩ := List.getElem?_eq_some_iff.1 hc
  have h6 := h2 i L[i] (List.getElem?_eq_getElem (by omega))
  exact ⟨hi i (by omega) hi1 _ h6.1, h6.2⟩
/-- Work that a contract tells of one piece's blocks, from start to end. -/
theorem St.whole {c' : Chunk} {F : List Nat} (h : St F w0 w [c']) : ∃ F', c'.holds w F' ∧ Fr F w0 w ∧ ∀ x ∈ F', x ∈ F ∨ w0.heap.size ≤ x := h.one
end

/-- A cell, and what stands ahead of it in its block, that leads to a list. -/
def Chunk.slp (T TE : TypeId) (s : Nat) (pre post : List Value) (b : Nat) (rs : List (List Value)) : Chunk :=
  Chunk.ex fun v : Value => Chunk.star (Chunk.blk b (pre ++ v :: post).toArray T) (Chunk.sl TE s v rs)
end Go.Proofs.Ytebahglmdifmpaa.Vc
