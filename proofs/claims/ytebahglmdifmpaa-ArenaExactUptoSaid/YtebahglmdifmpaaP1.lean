/- Take and Give on the list of pieces; the map of what is out: lists alone. -/
import Derived.Test.YtebahglmdifmpaaP0
set_option linter.unusedVariables false
set_option linter.unusedSimpArgs false
namespace Go.Proofs.Ytebahglmdifmpaa
open Go Go.Proofs.Ytebahglmdifmpaa.Vc
namespace PA
def takeL (n : Int) : List B → Option (Int × List B)
  | [] => none
  | b :: L => if b.2.2 = true ∧ n ≤ b.2.1 then some (b.1, (b.1, n, false) :: (if n < b.2.1 then (b.1 + n, b.2.1 - n, true) :: L else L)) else (takeL n L).map fun r => (r.1, b :: r.2)
def atOf : Option (Int × List B) → Int
  | none => -1
  | some r => r.1
def listOf (L : List B) : Option (Int × List B) → List B
  | none => L
  | some r => r.2
theorem scan_take (n : Int) : ∀ (L p : List B), (scanL n (frees L) p).2.2 = atOf (takeL n L) ∧ ((scanL n (frees L) p).1 ++ (scanL n (frees L) p).2.1).Perm (p ++ frees (listOf L (takeL n L)))
  | [], p => ⟨rfl, by simp [frees, scanL, takeL, listOf]⟩
  | b :: L, p => by
    by_cases hb : b.2.2 = true
    · have hf : frees (b :: L) = b :: frees L := by simp [frees, hb]
      rw [hf, scanL, takeL]
      by_cases hn : b.2.1 < n
      · rw [if_pos hn, if_neg (by omega)]
        obtain ⟨h1, h2⟩ := scan_take n L (p ++ [b])
        refine ⟨h1.trans ?_, h2.trans ?_⟩
        · cases takeL n L <;> rfl
        · cases takeL n L <;> simp [listOf, frees, hb]
      · have hc : b.2.2 = true ∧ n ≤ b.2.1 := ⟨hb, by omega⟩
        rw [if_neg hn, if_pos hc]
        by_cases h3 : n < b.2.1
        · simp only [if_pos h3]
          refine ⟨rfl, ?_⟩
          have e : frees (listOf (b :: L) (some (b.1, (b.1, n, false) :: (b.1 + n, b.2.1 - n, true) :: L))) = (b.1 + n, b.2.1 - n, true) :: frees L := by simp [listOf, frees]
          rw [e]
          refine List.perm_append_comm.trans ?_
          simp
        · simp only [if_neg h3]
          refine ⟨rfl, ?_⟩
          have e : frees (listOf (b :: L) (some (b.1, (b.1, n, false) :: L))) = frees L := by simp [listOf, frees]
          rw [e]
          exact List.perm_append_comm
    · have hf : frees (b :: L) = frees L := by simp [frees, hb]
      rw [hf, takeL, if_neg (fun h => hb h.1)]
      obtain ⟨h1, h2⟩ := scan_take n L p
      refine ⟨h1.trans ?_, h2.trans ?_⟩
      · cases takeL n L <;> rfl
      · cases takeL n L <;> simp [listOf, frees, hb]
theorem takeL_none {n : Int} : ∀ {L : List B}, takeL n L = none ↔ ∀ b ∈ L, b.2.2 = true → b.2.1 < n
  | [] => by simp [takeL]
  | b :: L => by
    have ih := takeL_none (n := n) (L := L)
    rw [takeL]
    by_cases h : b.2.2 = true ∧ n ≤ b.2.1
    · rw [if_pos h]
      simp only [reduceCtorEq, List.mem_cons, forall_eq_or_imp, false_iff, not_and]
      intro h1
      have := h1 h.1; omega
    · rw [if_neg h]
      simp only [Option.map_eq_none_iff, List.mem_cons, forall_eq_or_imp, ih]
      constructor
      · intro h1
        refine ⟨fun hb => ?_, h1⟩
        rcases Int.lt_or_le b.2.1 n with h2 | h2
        · exact h2
        · exact absurd ⟨hb, h2⟩ h
      · exact fun h1 => h1.2
/-- What a Take does to the pieces. -/
theorem takeL_some {n : Int} (hn : 1 ≤ n) : ∀ {L L' : List B} {a e at_ : Int}, takeL n L = some (at_, L') → Tiled a e L →
    Tiled a e L' ∧ (takens L').Perm ((at_, n) :: takens L) ∧ a ≤ at_ ∧ at_ + n ≤ e ∧ (at_, n, false) ∈ L' ∧ (Apart L → Apart L' ∧ ∀ y : B, y.2.2 = false ∨ Apart (y :: L) → Apart (y :: L'))
  | [], L', a, e, at_, h, _ => by simp [takeL] at h
  | b :: L, L', a, e, at_, h, ⟨h1, h2, h3⟩ => by
    have hle := h3.le
    rw [takeL] at h
    by_cases hc : b.2.2 = true ∧ n ≤ b.2.1
    · rw [if_pos hc] at h
      simp only [Option.some.injEq, Prod.mk.injEq] at h
      obtain ⟨rfl, rfl⟩ := h
      have hap : Apart (b :: L) → Apart ((b.1, n, false) :: (if n < b.2.1 then (b.1 + n, b.2.1 - n, true) :: L else L)) := by
        intro hA
        have hL : Apart L ∧ ∀ y : B, y.2.2 = true → Apart (y :: L) := by
          cases L with
          | nil => exact ⟨trivial, fun _ _ => trivial⟩
          | cons z L => exact ⟨hA.2, fun y hy => ⟨fun hh => hA.1 ⟨hc.1, hh.2⟩, hA.2⟩⟩
        split
        · exact ⟨by simp, hL.2 _ rfl⟩
        · cases L with
          | nil => trivial
          | cons z L => exact ⟨by simp, hL.1⟩
      refine ⟨?_, ?_, by omega, by omega, by simp, fun hA => ⟨hap hA, fun y hy => ⟨by simp, hap hA⟩⟩⟩
      · split
        · exact ⟨h1, hn, by simp only; omega, by simp only; omega, by simp only; rw [show a + n + (b.2.1 - n) = a + b.2.1 by omega]; exact h3⟩
        · rename_i hlt
          exact ⟨h1, hn, by simp only; rw [show a + n = a + b.2.1 by omega]; exact h3⟩
      · split <;> simp [takens, hc.1]
    · rw [if_neg hc] at h
      simp only [Option.map_eq_some_iff, Prod.mk.injEq] at h
      obtain ⟨⟨q, L1⟩, h4, rfl, rfl⟩ := h
      obtain ⟨k1, k2, k3, k4, k5, k6⟩ := takeL_some hn h4 h3
      refine ⟨⟨h1, h2, k1⟩, ?_, by simp only; omega, k4, List.mem_cons_of_mem _ k5, fun hA => ?_⟩
      · by_cases hb : b.2.2 = true
        · have e1 : takens (b :: L1) = takens L1 := by simp [takens, hb]
          have e2 : takens (b :: L) = takens L := by simp [takens, hb]
          rw [e1, e2]; exact k2
        · have e1 : takens (b :: L1) = (b.1, b.2.1) :: takens L1 := by simp [takens, hb]
          have e2 : takens (b :: L) = (b.1, b.2.1) :: takens L := by simp [takens, hb]
          rw [e1, e2]
          exact (k2.cons _).trans (List.Perm.swap _ _ _)
      · have tl : Apart L := by
          cases L with
          | nil => trivial
          | cons z L => exact hA.2
        have hb : Apart (b :: L1) := (k6 tl).2 b (.inr hA)
        refine ⟨hb, fun y hy => ?_⟩
        refine ⟨?_, hb⟩
        rcases hy with hy | hy
        · simp [hy]
        · exact hy.1
/-- A piece that is out is free again. -/
def giveL (addr : Int) : List B → Option (Int × List B)
  | [] => none
  | b :: L => if b.2.2 = false ∧ b.1 = addr then some (b.2.1, (b.1, b.2.1, true) :: L) else (giveL addr L).map fun r => (r.1, b :: r.2)
theorem giveL_none {addr : Int} : ∀ {L : List B}, giveL addr L = none ↔ ∀ n, (addr, n) ∉ takens L
  | [] => by simp [giveL, takens]
  | b :: L => by
    have ih := giveL_none (addr := addr) (L := L)
    rw [giveL]
    by_cases h : b.2.2 = false ∧ b.1 = addr
    · rw [if_pos h]
      simp only [reduceCtorEq, false_iff]
      intro hh
      refine hh b.2.1 ?_
      simp [takens, h.1, ← h.2]
    · rw [if_neg h]
      simp only [Option.map_eq_none_iff, ih]
      by_cases hb : b.2.2 = true
      · have e : takens (b :: L) = takens L := by simp [takens, hb]
        rw [e]
      · have hb' : b.2.2 = false := by simpa using hb
        have e : takens (b :: L) = (b.1, b.2.1) :: takens L := by simp [takens, hb]
        rw [e]
        have hne : ¬ b.1 = addr := fun hh => h ⟨hb', hh⟩
        constructor
        · intro h1 n hm
          rcases List.mem_cons.1 hm with hm | hm
          · simp only [Prod.mk.injEq] at hm
            exact hne hm.1.symm
          · exact h1 n hm
        · exact fun h1 n hm => h1 n (List.mem_cons_of_mem _ hm)
theorem giveL_some {addr : Int} : ∀ {L L' : List B} {a e n : Int}, giveL addr L = some (n, L') → Tiled a e L →
    Tiled a e L' ∧ (takens L).Perm ((addr, n) :: takens L') ∧ (frees L').Perm ((addr, n, true) :: frees L) ∧ a ≤ addr ∧ 1 ≤ n ∧ addr + n ≤ e ∧ (addr, n, false) ∈ L
  | [], L', a, e, n, h, _ => by simp [giveL] at h
  | b :: L, L', a, e, n, h, ⟨h1, h2, h3⟩ => by
    have hle := h3.le
    rw [giveL] at h
    by_cases hc : b.2.2 = false ∧ b.1 = addr
    · rw [if_pos hc] at h
      simp only [Option.some.injEq, Prod.mk.injEq] at h
      obtain ⟨rfl, rfl⟩ := h
      obtain ⟨b1, b2, b3⟩ := b
      simp only at hc h1 h2 h3 hle ⊢
      obtain ⟨rfl, rfl⟩ := hc
      exact ⟨⟨h1, h2, h3⟩, by simp [takens], by simp [frees], by omega, h2, by omega, by simp⟩
    · rw [if_neg hc] at h
      simp only [Option.map_eq_some_iff, Prod.mk.injEq] at h
      obtain ⟨⟨q, L1⟩, h4, rfl, rfl⟩ := h
      obtain ⟨k1, k2, k3, k4, k5, k6, k7⟩ := giveL_some h4 h3
      refine ⟨⟨h1, h2, k1⟩, ?_, ?_, by omega, k5, k6, List.mem_cons_of_mem _ k7⟩
      · by_cases hb : b.2.2 = true
        · have e1 : takens (b :: L1) = takens L1 := by simp [takens, hb]
          have e2 : takens (b :: L) = takens L := by simp [takens, hb]
          rw [e1, e2]; exact k2
        · have e1 : takens (b :: L1) = (b.1, b.2.1) :: takens L1 := by simp [takens, hb]
          have e2 : takens (b :: L) = (b.1, b.2.1) :: takens L := by simp [takens, hb]
          rw [e1, e2]
          exact (k2.cons _).trans (List.Perm.swap _ _ _)
      · by_cases hb : b.2.2 = true
        · have e1 : frees (b :: L1) = b :: frees L1 := by simp [frees, hb]
          have e2 : frees (b :: L) = b :: frees L := by simp [frees, hb]
          rw [e1, e2]
          exact (k3.cons _).trans (List.Perm.swap _ _ _)
        · have e1 : frees (b :: L1) = frees L1 := by simp [frees, hb]
          have e2 : frees (b :: L) = frees L := by simp [frees, hb]
          rw [e1, e2]; exact k3
theorem takens_asc {L : List B} (h : L.Pairwise (fun x y => x.1 < y.1)) : (takens L).Pairwise (fun x y => x.1 < y.1) :=
  List.Pairwise.map _ (fun _ _ h => h) (h.filter _)

/-! ### The map -/
theorem idxM_none {l : List (Int × Int)} {k : Int} : idxM l k = none ↔ ∀ v, (k, v) ∉ l := by
  unfold idxM
  rw [List.findIdx?_eq_none_iff]
  constructor
  · intro h v hm
    have := h _ hm
    simp at this
  · intro h p hp
    have : p.1 ≠ k := fun e => h p.2 (by rw [← e]; exact hp)
    simpa using this
theorem hasM_iff {l : List (Int × Int)} {k : Int} : hasM l k = true ↔ ∃ v, (k, v) ∈ l := by
  unfold hasM
  cases h : idxM l k with
  | none =>
    have := idxM_none.1 h
    simp
    intro x; exact this x
  | some j =>
    simp only [Option.isSome_some, true_iff]
    rcases Classical.em (∃ v, (k, v) ∈ l) with h2 | h2
    · exact h2
    · have : idxM l k = none := idxM_none.2 (fun v hv => h2 ⟨v, hv⟩)
      rw [this] at h; cases h
theorem idxM_get {l : List (Int × Int)} {k : Int} {j : Nat} (h : idxM l k = some j) : ∃ h : j < l.length, l[j].1 = k := by
  obtain ⟨h1, h2, _⟩ := List.findIdx?_eq_some_iff_getElem.1 h
  exact ⟨h1, by simpa using h2⟩
/-- No key twice. -/
def Keys (l : List (Int × Int)) : Prop := l.Pairwise (fun x y => x.1 ≠ y.1)
theorem Keys.perm {l l' : List (Int × Int)} (h : Keys l) (p : l.Perm l') : Keys l' := p.pairwise h (fun h => h.symm)
theorem Keys.one {l : List (Int × Int)} (h : Keys l) {k v v' : Int} (h1 : (k, v) ∈ l) (h2 : (k, v') ∈ l) : v = v' := by
  obtain ⟨i, hi, ei⟩ := List.getElem_of_mem h1
  obtain ⟨j, hj, ej⟩ := List.getElem_of_mem h2
  have hp := List.pairwise_iff_getElem.1 h
  rcases Nat.lt_trichotomy i j with h3 | h3 | h3
  · have := hp i j hi hj h3
    rw [ei, ej] at this; exact absurd rfl this
  · subst h3; rw [ei] at ej; simpa using ej
  · have := hp j i hj hi h3
    rw [ei, ej] at this; exact absurd rfl this
theorem getM_mem {l : List (Int × Int)} (h : Keys l) {k v : Int} (hm : (k, v) ∈ l) : getM l k = v := by
  unfold getM
  cases hx : idxM l k with
  | none => exact absurd hm (idxM_none.1 hx v)
  | some j =>
    obtain ⟨hj, hk⟩ := idxM_get hx
    simp only
    rw [List.getD_eq_getElem?_getD, List.getElem?_eq_getElem hj]
    have : (k, l[j].2) ∈ l := by rw [← hk]; exact List.getElem_mem hj
    exact h.one this hm
theorem delM_perm {l : List (Int × Int)} (h : Keys l) {k v : Int} (hm : (k, v) ∈ l) : l.Perm ((k, v) :: delM l k) := by
  unfold delM
  cases hx : idxM l k with
  | none => exact absurd hm (idxM_none.1 hx v)
  | some j =>
    obtain ⟨hj, hk⟩ := idxM_get hx
    simp only
    have h2 : l[j] = (k, v) := by
      have h3 : (k, l[j].2) ∈ l := by rw [← hk]; exact List.getElem_mem hj
      have := h.one h3 hm
      rw [← hk, ← this]
    have := HeapPlain.eraseIdx_perm l j hj
    rw [h2] at this
    exact this
theorem putM_new {l : List (Int × Int)} {k v : Int} (h : ∀ v, (k, v) ∉ l) : putM l k v = l ++ [(k, v)] := by
  unfold putM
  rw [idxM_none.2 h]
end PA
end Go.Proofs.Ytebahglmdifmpaa
