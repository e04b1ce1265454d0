/- Binary heaps as lists: what Push and Pop of a heap do to its list, and that they keep things and order: plain lists, no program. -/
namespace Go.Proofs.Ytebahglmdifmpaa.HeapPlain
variable {β : Type}

def swap (d : β) (l : List β) (i j : Nat) : List β := (l.set i (l.getD j d)).set j (l.getD i d)

def up (d : β) (ah : β → β → Bool) : Nat → Nat → List β → List β
  | 0, _, l => l
  | k + 1, i, l => if i = 0 then l else if ah (l.getD i d) (l.getD ((i - 1) / 2) d) = true then up d ah k ((i - 1) / 2) (swap d l i ((i - 1) / 2)) else l

def kid (d : β) (ah : β → β → Bool) (i : Nat) (l : List β) : Nat := if 2 * i + 1 + 1 < l.length ∧ ah (l.getD (2 * i + 1 + 1) d) (l.getD (2 * i + 1) d) = true then 2 * i + 1 + 1 else 2 * i + 1

def down (d : β) (ah : β → β → Bool) : Nat → Nat → List β → List β
  | 0, _, l => l
  | k + 1, i, l => if l.length ≤ 2 * i + 1 then l else if ah (l.getD (kid d ah i l) d) (l.getD i d) = true then down d ah k (kid d ah i l) (swap d l i (kid d ah i l)) else l

def push (d : β) (ah : β → β → Bool) (l : List β) (x : β) : List β := up d ah l.length l.length (l ++ [x])
def cut (d : β) (l : List β) : List β := (l.set 0 (l.getD (l.length - 1) d)).take (l.length - 1)
def popped (d : β) (ah : β → β → Bool) (l : List β) : List β := down d ah (l.length - 1) 0 (cut d l)

theorem swap_length (d : β) (l : List β) (i j : Nat) : (swap d l i j).length = l.length := by simp [swap]
theorem up_length (d : β) (ah : β → β → Bool) : ∀ k i l, (up d ah k i l).length = l.length := by
  intro k
  induction k with
  | zero => intros; rfl
  | succ k ih =>
    intro i l
    unfold up
    split
    · rfl
    · split
      · rw [ih, swap_length]
      · rfl
theorem down_length (d : β) (ah : β → β → Bool) : ∀ k i l, (down d ah k i l).length = l.length := by
  intro k
  induction k with
  | zero => intros; rfl
  | succ k ih =>
    intro i l
    unfold down
    split
    · rfl
    · split
      · rw [ih, swap_length]
      · rfl
theorem cut_length (d : β) (l : List β) : (cut d l).length = l.length - 1 := by simp [cut]

theorem swap_perm (d : β) (l : List β) {i j : Nat} (hi : i < l.length) (hj : j < l.length) : (swap d l i j).Perm l := by
  have h := Array.swap_perm (xs := l.toArray) (i := i) (j := j) (by simpa using hi) (by simpa using hj)
  have h2 := h.toList
  have e : (l.toArray.swap i j (by simpa using hi) (by simpa using hj)).toList = swap d l i j := by
    simp [Array.swap, swap, List.getD_eq_getElem?_getD, hi, hj]
  rw [e] at h2
  simpa using h2

theorem swap_getD (d : β) (l : List β) {i j : Nat} (hi : i < l.length) (hj : j < l.length) (k : Nat) :
    (swap d l i j).getD k d = if k = j then l.getD i d else if k = i then l.getD j d else l.getD k d := by
  unfold swap
  simp only [List.getD_eq_getElem?_getD, List.getElem?_set, List.length_set]
  by_cases h1 : j = k
  · subst h1; simp [hj]
  · have h1' : ¬ k = j := fun h => h1 h.symm
    by_cases h2 : i = k
    · subst h2; simp [h1, h1', hi]
    · have h2' : ¬ k = i := fun h => h2 h.symm
      simp [h1, h1', h2, h2']

theorem up_perm (d : β) (ah : β → β → Bool) : ∀ k i l, i < l.length → (up d ah k i l).Perm l := by
  intro k
  induction k with
  | zero => intros; exact List.Perm.refl _
  | succ k ih =>
    intro i l hi
    unfold up
    split
    · exact List.Perm.refl _
    · split
      · exact (ih _ _ (by rw [swap_length]; omega)).trans (swap_perm d l hi (by omega))
      · exact List.Perm.refl _
theorem kid_lt (d : β) (ah : β → β → Bool) (i : Nat) (l : List β) (h : ¬ l.length ≤ 2 * i + 1) : kid d ah i l < l.length ∧ (kid d ah i l = 2 * i + 1 ∨ kid d ah i l = 2 * i + 1 + 1) := by
  unfold kid
  split
  · rename_i h; exact ⟨h.1, .inr rfl⟩
  · exact ⟨by omega, .inl rfl⟩
theorem down_perm (d : β) (ah : β → β → Bool) : ∀ k i l, (down d ah k i l).Perm l := by
  intro k
  induction k with
  | zero => intros; exact List.Perm.refl _
  | succ k ih =>
    intro i l
    unfold down
    split
    · exact List.Perm.refl _
    · rename_i h
      have hk := kid_lt d ah i l h
      split
      · exact (ih _ _).trans (swap_perm d l (by omega) hk.1)
      · exact List.Perm.refl _
theorem push_perm (d : β) (ah : β → β → Bool) (l : List β) (x : β) : (push d ah l x).Perm (x :: l) := by
  unfold push
  exact (up_perm d ah _ _ _ (by simp)).trans (List.perm_append_comm)
theorem push_length (d : β) (ah : β → β → Bool) (l : List β) (x : β) : (push d ah l x).length = l.length + 1 := by
  unfold push; rw [up_length]; simp
theorem cut_perm (d : β) (x : β) (t : List β) : (cut d (x :: t)).Perm t := by
  rcases List.eq_nil_or_concat t with rfl | ⟨s, y, rfl⟩
  · simp [cut]
  · have : cut d (x :: (s ++ [y])) = y :: s := by
      simp [cut, List.getD_eq_getElem?_getD]
    rw [List.concat_eq_append, this]
    exact (List.perm_append_comm (l₁ := [y]) (l₂ := s))
theorem popped_perm (d : β) (ah : β → β → Bool) (x : β) (t : List β) : (popped d ah (x :: t)).Perm t :=
  (down_perm d ah _ _ _).trans (cut_perm d x t)
theorem popped_length (d : β) (ah : β → β → Bool) (l : List β) : (popped d ah l).length = l.length - 1 := by
  unfold popped; rw [down_length, cut_length]

/-- No thing is ahead of the one above it. -/
def Ordered (d : β) (ah : β → β → Bool) (l : List β) : Prop := ∀ i, 0 < i → i < l.length → ah (l.getD i d) (l.getD ((i - 1) / 2) d) = false

structure Total (ah : β → β → Bool) : Prop where
  asym : ∀ x y, ah x y = true → ah y x = false
  trans : ∀ x y z, ah y x = false → ah z y = false → ah z x = false

theorem Total.irrefl {ah : β → β → Bool} (T : Total ah) (x : β) : ah x x = false := by
  cases h : ah x x with
  | false => rfl
  | true => rw [← h]; exact T.asym x x h

theorem ordered_least {d : β} {ah : β → β → Bool} (T : Total ah) {l : List β} (h : Ordered d ah l) : ∀ i, i < l.length → ah (l.getD i d) (l.getD 0 d) = false := by
  intro i
  induction i using Nat.strongRecOn with
  | _ i ih =>
    intro hi
    by_cases h0 : i = 0
    · subst h0; exact T.irrefl _
    · exact T.trans _ _ _ (ih ((i - 1) / 2) (by omega) (by omega)) (h i (by omega) hi)

theorem up_ordered {d : β} {ah : β → β → Bool} (T : Total ah) : ∀ k i (l : List β), i ≤ k → i < l.length →
    (∀ j, 0 < j → j < l.length → j ≠ i → ah (l.getD j d) (l.getD ((j - 1) / 2) d) = false) →
    (∀ j, 0 < j → j < l.length → (j - 1) / 2 = i → 0 < i → ah (l.getD j d) (l.getD ((i - 1) / 2) d) = false) → Ordered d ah (up d ah k i l) := by
  intro k
  induction k with
  | zero =>
    intro i l hk hi h1 h2 j hj hl
    exact h1 j hj hl (by omega)
  | succ k ih =>
    intro i l hk hi h1 h2
    unfold up
    split
    · rename_i h0
      intro j hj hl
      exact h1 j hj hl (by omega)
    · rename_i h0
      split
      · rename_i hah
        have hp : (i - 1) / 2 < l.length := by omega
        refine ih _ _ (by omega) (by rw [swap_length]; exact hp) ?_ ?_
        · intro j hj hl hne
          rw [swap_length] at hl
          rw [swap_getD d l hi hp, swap_getD d l hi hp]
          by_cases e1 : j = (i - 1) / 2
          · exact absurd e1 hne
          · rw [if_neg e1]
            by_cases e2 : j = i
            · subst e2
              rw [if_pos rfl, if_pos rfl]
              exact T.asym _ _ hah
            · rw [if_neg e2]
              by_cases e3 : (j - 1) / 2 = (i - 1) / 2
              · rw [if_pos e3]
                refine T.trans _ (l.getD ((i - 1) / 2) d) _ (T.asym _ _ hah) ?_
                rw [← e3]; exact h1 j hj hl e2
              · rw [if_neg e3]
                by_cases e4 : (j - 1) / 2 = i
                · rw [if_pos e4]
                  exact h2 j hj hl e4 (by omega)
                · rw [if_neg e4]
                  exact h1 j hj hl e2
        · intro j hj hl hpar h0'
          rw [swap_length] at hl
          have g1 : ((i - 1) / 2 - 1) / 2 ≠ (i - 1) / 2 := by omega
          have g2 : ((i - 1) / 2 - 1) / 2 ≠ i := by omega
          have hgp := h1 ((i - 1) / 2) h0' hp (by omega)
          rw [swap_getD d l hi hp, swap_getD d l hi hp, if_neg g1, if_neg g2]
          by_cases e1 : j = (i - 1) / 2
          · omega
          · rw [if_neg e1]
            by_cases e2 : j = i
            · rw [if_pos e2]; exact hgp
            · rw [if_neg e2]
              have := h1 j hj hl e2
              rw [hpar] at this
              exact T.trans _ _ _ hgp this
      · rename_i hah
        intro j hj hl
        by_cases e : j = i
        · subst e; simpa using hah
        · exact h1 j hj hl e

theorem push_ordered {d : β} {ah : β → β → Bool} (T : Total ah) {l : List β} (h : Ordered d ah l) (x : β) : Ordered d ah (push d ah l x) := by
  unfold push
  refine up_ordered T _ _ _ (Nat.le_refl _) (by simp) ?_ ?_
  · intro j hj hl hne
    simp at hl
    have h1 : j < l.length := by omega
    have h2 : (j - 1) / 2 < l.length := by omega
    have := h j hj h1
    simpa [List.getD_eq_getElem?_getD, List.getElem?_append_left h1, List.getElem?_append_left h2] using this
  · intro j hj hl hp
    simp at hl
    omega

theorem down_ordered {d : β} {ah : β → β → Bool} (T : Total ah) : ∀ k i (l : List β), l.length ≤ k + i →
    (∀ j, 0 < j → j < l.length → (j - 1) / 2 ≠ i → ah (l.getD j d) (l.getD ((j - 1) / 2) d) = false) →
    (∀ j, 0 < j → j < l.length → (j - 1) / 2 = i → 0 < i → ah (l.getD j d) (l.getD ((i - 1) / 2) d) = false) → Ordered d ah (down d ah k i l) := by
  intro k
  induction k with
  | zero =>
    intro i l hk h1 h2 j hj hl
    exact h1 j hj hl (by simp [down] at hl; omega)
  | succ k ih =>
    intro i l hk h1 h2
    unfold down
    split
    · rename_i h0
      intro j hj hl
      exact h1 j hj hl (by omega)
    · rename_i h0
      have hk2 := kid_lt d ah i l h0
      have hleast : ∀ j, 0 < j → j < l.length → (j - 1) / 2 = i → ah (l.getD j d) (l.getD (kid d ah i l) d) = false := by
        intro j hj hl hp
        have hc : j = 2 * i + 1 ∨ j = 2 * i + 1 + 1 := by omega
        unfold kid
        split
        · rename_i hh
          rcases hc with rfl | rfl
          · exact T.asym _ _ hh.2
          · exact T.irrefl _
        · rename_i hh
          rcases hc with rfl | rfl
          · exact T.irrefl _
          · cases hx : ah (l.getD (2 * i + 1 + 1) d) (l.getD (2 * i + 1) d) with
            | false => rfl
            | true => exact absurd ⟨hl, hx⟩ hh
      generalize hc : kid d ah i l = c at *
      have hcp : (c - 1) / 2 = i := by omega
      have hil : i < l.length := by omega
      split
      · rename_i hah
        refine ih _ _ (by rw [swap_length]; omega) ?_ ?_
        · intro j hj hl hne
          rw [swap_length] at hl
          rw [swap_getD d l hil hk2.1, swap_getD d l hil hk2.1, if_neg hne]
          by_cases e1 : j = c
          · rw [if_pos e1, e1, hcp, if_pos rfl]
            exact T.asym _ _ hah
          · rw [if_neg e1]
            by_cases e2 : (j - 1) / 2 = i
            · rw [if_pos e2]
              by_cases e3 : j = i
              · omega
              · rw [if_neg e3]
                exact hleast j hj hl e2
            · rw [if_neg e2]
              by_cases e3 : j = i
              · rw [if_pos e3]
                have := h2 c (by omega) hk2.1 hcp (by omega)
                rw [e3]; exact this
              · rw [if_neg e3]
                exact h1 j hj hl e2
        · intro j hj hl hp h0'
          rw [swap_length] at hl
          have g1 : ¬ j = c := by omega
          have g2 : ¬ j = i := by omega
          have g3 : ¬ (c - 1) / 2 = c := by omega
          rw [swap_getD d l hil hk2.1, swap_getD d l hil hk2.1, if_neg g1, if_neg g2, if_neg g3, hcp, if_pos rfl]
          have := h1 j hj hl (by omega)
          rw [hp] at this
          exact this
      · rename_i hah
        intro j hj hl
        by_cases e : (j - 1) / 2 = i
        · rw [e]
          exact T.trans _ _ _ (by simpa using hah) (hleast j hj hl e)
        · exact h1 j hj hl e

theorem popped_ordered {d : β} {ah : β → β → Bool} (T : Total ah) {l : List β} (h : Ordered d ah l) : Ordered d ah (popped d ah l) := by
  unfold popped
  refine down_ordered T _ _ _ (by rw [cut_length]; omega) ?_ ?_
  · intro j hj hl hne
    rw [cut_length] at hl
    have hn : (j - 1) / 2 ≠ 0 := hne
    have := h j hj (by omega)
    unfold cut
    have e : ∀ m, 0 < m → m < l.length - 1 → ((l.set 0 (l.getD (l.length - 1) d)).take (l.length - 1)).getD m d = l.getD m d := by
      intro m hm hlt
      have hm' : ¬ 0 = m := by omega
      have hl2 : m < l.length := by omega
      simp [List.getD_eq_getElem?_getD, hlt, hm', hl2]
    rw [e j hj hl, e _ (by omega) (by omega)]
    exact this
  · intro j hj hl hp h0
    omega

/-! ### Entries: a thing and when it came; an order by a rank -/
variable {α : Type}
def ahead (lt : α → α → Bool) (x y : α × Int) : Bool := lt x.1 y.1 || (!lt y.1 x.1 && decide (x.2 < y.2))
def byRank (rank : α → Int) (a b : α) : Bool := decide (rank a < rank b)

theorem ahead_rank (rank : α → Int) (x y : α × Int) : ahead (byRank rank) x y = true ↔ rank x.1 < rank y.1 ∨ (rank x.1 = rank y.1 ∧ x.2 < y.2) := by
  unfold ahead byRank
  simp
  omega
theorem ahead_rank_false (rank : α → Int) (x y : α × Int) : ahead (byRank rank) x y = false ↔ rank y.1 < rank x.1 ∨ (rank y.1 = rank x.1 ∧ y.2 ≤ x.2) := by
  rw [← Bool.not_eq_true, ahead_rank]
  omega
theorem total_rank (rank : α → Int) : Total (ahead (byRank rank)) := by
  constructor
  · intro x y h
    rw [ahead_rank] at h
    rw [ahead_rank_false]
    omega
  · intro x y z h1 h2
    rw [ahead_rank_false] at *
    omega

theorem eraseIdx_perm {γ : Type} (l : List γ) (i : Nat) (h : i < l.length) : l.Perm (l[i] :: l.eraseIdx i) := by
  rw [List.eraseIdx_eq_take_drop_succ]
  have e : l = l.take i ++ l[i] :: l.drop (i + 1) := by
    rw [List.getElem_cons_drop, List.take_append_drop]
  exact (List.Perm.of_eq e).trans List.perm_middle

/-- The first of the least. -/
structure FirstLeast (r : List Int) (k : Nat) : Prop where
  lt : k < r.length
  le : ∀ i, i < r.length → r.getD k 0 ≤ r.getD i 0
  first : ∀ i, i < k → r.getD k 0 < r.getD i 0

theorem pop_first {d : α × Int} {rank : α → Int} {l A : List (α × Int)} (ho : Ordered d (ahead (byRank rank)) l) (hp : l.Perm A) (hs : A.Pairwise (fun x y => x.2 < y.2))
    {k : Nat} (hk : FirstLeast (A.map fun x => rank x.1) k) :
    l.getD 0 d = A.getD k d ∧ (popped d (ahead (byRank rank)) l).Perm (A.eraseIdx k) ∧ Ordered d (ahead (byRank rank)) (popped d (ahead (byRank rank)) l) := by
  have hkl : k < A.length := by simpa using hk.lt
  have hl : 0 < l.length := by rw [hp.length_eq]; omega
  obtain ⟨x, t, rfl⟩ : ∃ x t, l = x :: t := by
    cases l with
    | nil => simp at hl
    | cons x t => exact ⟨x, t, rfl⟩
  have hx : (x :: t).getD 0 d = x := rfl
  have hmem : x ∈ A := hp.subset (by simp)
  obtain ⟨m, hm, hmx⟩ := List.getElem_of_mem hmem
  have hkm : A[k] ∈ (x :: t) := hp.symm.subset (List.getElem_mem hkl)
  obtain ⟨i, hi, hix⟩ := List.getElem_of_mem hkm
  have h1 := ordered_least (total_rank rank) ho i hi
  have e1 : (x :: t).getD i d = A[k] := by
    rw [List.getD_eq_getElem?_getD, List.getElem?_eq_getElem hi, hix]; rfl
  rw [e1, hx, ahead_rank_false] at h1
  have h2 := hk.le m (by simpa using hm)
  have h3 := hk.first m
  have ek : (A.map fun x => rank x.1).getD k 0 = rank A[k].1 := by
    simp [List.getD_eq_getElem?_getD, hkl]
  have em : (A.map fun x => rank x.1).getD m 0 = rank x.1 := by
    simp [List.getD_eq_getElem?_getD, hm, hmx]
  rw [ek, em] at h2 h3
  have hmk : m = k := by
    rcases Nat.lt_trichotomy m k with h | h | h
    · have := h3 h; omega
    · exact h
    · have := List.pairwise_iff_getElem.1 hs k m hkl hm h
      rw [hmx] at this
      omega
  subst hmk
  refine ⟨?_, ?_, popped_ordered (total_rank rank) ho⟩
  · rw [hx, List.getD_eq_getElem?_getD, List.getElem?_eq_getElem hm, hmx]; rfl
  · refine (popped_perm d _ x t).trans ?_
    have h4 : A.Perm (A[m] :: A.eraseIdx m) := eraseIdx_perm A m hm
    rw [hmx] at h4
    exact (List.perm_cons x).1 (hp.trans h4)

end Go.Proofs.Ytebahglmdifmpaa.HeapPlain
