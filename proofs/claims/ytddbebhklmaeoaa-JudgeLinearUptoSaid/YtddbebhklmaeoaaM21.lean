/- What the search finds is a right order; where there is one it finds one, and none ahead of it (plain law). -/
import Derived.Test.YtddbebhklmaeoaaM20
set_option linter.unusedVariables false
namespace Go.Proofs.Ytddbebhklmaeoaa.JL
/-- A state is that behind an order. -/
def Reps (H : Hist) (s : State) (l : List Int) : Prop := (∀ i : Nat, s.1.testBit i = true ↔ (i : Int) ∈ l) ∧ s.2 = lastOf H l
theorem reps_nil (H : Hist) : Reps H (0, -1) [] := ⟨fun i => by simp, rfl⟩
theorem reps_step {H : Hist} {s z : State} {l : List Int} {k : Nat} (h : Reps H s l) (hs : step H s k = some z) : Reps H z (l ++ [(k : Int)]) := by
  obtain ⟨_, _, _, h1, h2⟩ := step_some hs
  refine ⟨fun i => ?_, ?_⟩
  · rw [h1, testBit_or, Bool.or_eq_true, h.1 i, decide_eq_true_iff, List.mem_append, List.mem_singleton]
    exact or_congr Iff.rfl ⟨fun e => by rw [e], fun e => by exact (Int.ofNat_inj.1 e).symm⟩
  · rw [h2, lastOf_snoc, Int.toNat_natCast, h.2]
theorem late_iff {H : Hist} {s : State} {l : List Int} (h : Reps H s l) {k : Nat} : late H s k = true ↔ ∃ m : Nat, m < H.n ∧ (m : Int) ∉ l ∧ 0 ≤ H.ended m ∧ H.ended m < H.began k := by
  unfold late
  rw [List.any_eq_true]
  constructor
  · rintro ⟨m, hm, hh⟩
    simp only [Bool.and_eq_true, Bool.not_eq_true', decide_eq_true_iff] at hh
    refine ⟨m, List.mem_range.1 hm, fun hc => ?_, hh.1.2, hh.2⟩
    rw [(h.1 m).2 hc] at hh
    exact absurd hh.1.1 (by decide)
  · rintro ⟨m, hm, h1, h2, h3⟩
    refine ⟨m, List.mem_range.2 hm, ?_⟩
    have : s.1.testBit m = false := by
      cases hb : s.1.testBit m with
      | false => rfl
      | true => exact absurd ((h.1 m).1 hb) h1
    simp [this, h2, h3]
theorem whole_iff {H : Hist} {s : State} {l : List Int} (h : Reps H s l) : whole H s = true ↔ Full H l := by
  unfold whole Full
  rw [List.all_eq_true]
  constructor
  · intro ha k hk he
    have := ha k (List.mem_range.2 hk)
    rw [decide_eq_true he] at this
    cases hb : s.1.testBit k with
    | true => exact (h.1 k).1 hb
    | false => rw [hb] at this; exact absurd this (by decide)
  · intro ha k hk
    by_cases he : 0 ≤ H.ended k
    · rw [(h.1 k).2 (ha k (List.mem_range.1 hk) he)]; simp
    · rw [decide_eq_false he]; rfl
/-- A step, told of the order. -/
theorem step_iff {H : Hist} (hok : H.Ok) {s : State} {l : List Int} (h : Reps H s l) {k : Nat} (hk : k < H.n) : (∃ z, step H s k = some z) ↔
    (k : Int) ∉ l ∧ (∀ m : Nat, m < H.n → m ≠ k → (m : Int) ∉ l → ¬ (0 ≤ H.ended m ∧ H.ended m < H.began k)) ∧ (H.write k = true ∨ H.fits (lastOf H l) k = true) := by
  constructor
  · rintro ⟨z, hz⟩
    obtain ⟨h1, h2, h3, _⟩ := step_some hz
    refine ⟨fun hc => ?_, fun m hm _ hn hh => ?_, by rw [← h.2]; exact h3⟩
    · rw [(h.1 k).2 hc] at h1; cases h1
    · rw [(late_iff h).2 ⟨m, hm, hn, hh⟩] at h2; cases h2
  · rintro ⟨h1, h2, h3⟩
    have e1 : s.1.testBit k = false := by
      cases hb : s.1.testBit k with
      | false => rfl
      | true => exact absurd ((h.1 k).1 hb) h1
    have e2 : late H s k = false := by
      cases hb : late H s k with
      | false => rfl
      | true =>
        obtain ⟨m, hm, hn, hh⟩ := (late_iff h).1 hb
        by_cases e : m = k
        · subst e
          have := hok.ended m hm
          omega
        · exact absurd hh (h2 m hm e hn)
    refine ⟨(s.1 ||| 2 ^ k, if H.counts k then (k : Int) else s.2), ?_⟩
    unfold step
    rw [if_neg (by rw [e1]; decide), if_neg (by rw [e2]; decide), if_neg]
    rw [h.2]
    rcases h3 with h3 | h3 <;> simp [h3]
theorem firstOf_some {α β : Type} {f : α → Option β} : ∀ {l : List α} {b : β}, firstOf f l = some b → ∃ a ∈ l, f a = some b
  | a :: l, b, h => by
    rw [firstOf] at h
    cases ha : f a with
    | some c => rw [ha] at h; injection h with h; subst h; exact ⟨a, by simp, ha⟩
    | none =>
      rw [ha] at h
      obtain ⟨c, hc, e⟩ := firstOf_some h
      exact ⟨c, by simp [hc], e⟩
def ints (l : List Nat) : List Int := l.map fun k : Nat => (k : Int)
/-- Each step of an order may be made. -/
def Goes (H : Hist) (l : List Int) : Prop := Right H l ∧ Awaits H l
theorem goes_snoc {H : Hist} (hok : H.Ok) {l : List Int} {s z : State} {k : Nat} (hk : k < H.n) (h : Reps H s l) (hg : Goes H l) (hs : step H s k = some z) : Goes H (l ++ [(k : Int)]) := by
  obtain ⟨h1, h2, h3⟩ := (step_iff hok h hk).1 ⟨z, hs⟩
  have key : ∀ i, i < (l ++ [(k : Int)]).length → (i < l.length ∧ (l ++ [(k : Int)]).getD i 0 = l.getD i 0 ∧ (l ++ [(k : Int)]).take i = l.take i) ∨ ((l ++ [(k : Int)]).getD i 0 = k ∧ (l ++ [(k : Int)]).take i = l) := by
    intro i hi
    rw [List.length_append, List.length_singleton] at hi
    rcases Nat.lt_or_ge i l.length with hl | hl
    · refine .inl ⟨hl, ?_, ?_⟩
      · rw [List.getD_eq_getElem?_getD, List.getElem?_append_left hl, List.getD_eq_getElem?_getD]
      · rw [List.take_append_of_le_length (by omega)]
    · have : i = l.length := by omega
      subst this
      refine .inr ⟨?_, ?_⟩
      · rw [List.getD_eq_getElem?_getD, List.getElem?_append_right (Nat.le_refl _)]; simp
      · rw [List.take_append_of_le_length (Nat.le_refl _), List.take_length]
  refine ⟨fun i hi => ?_, fun i hi m hm hne hnt => ?_⟩
  · rcases key i hi with ⟨a, b, c⟩ | ⟨b, c⟩
    · rw [b, c]; exact hg.1 i a
    · rw [b, c]
      refine ⟨by omega, by omega, h1, ?_⟩
      rw [Int.toNat_natCast]; exact h3
  · rcases key i hi with ⟨a, b, c⟩ | ⟨b, c⟩
    · rw [b] at hne ⊢; rw [c] at hnt; exact hg.2 i a m hm hne hnt
    · rw [b] at hne ⊢; rw [c] at hnt
      rw [Int.toNat_natCast]
      exact h2 m hm (by omega) hnt
/-- What is found goes on rightly. -/
theorem path_sound {H : Hist} (hok : H.Ok) : ∀ (f : Nat) {s : State} {l : List Int} {r : List Nat}, left H s.1 = f → Reps H s l → Goes H l → path H s = some r → Goes H (l ++ ints r) ∧ Full H (l ++ ints r) ∧ ∀ k ∈ r, k < H.n := by
  intro f
  induction f with
  | zero =>
    intro s l r hf hr hg hp
    have hw := whole_of_left hf
    rw [path_whole hw] at hp
    injection hp with hp
    subst hp
    simp only [ints, List.map_nil, List.append_nil]
    exact ⟨hg, (whole_iff hr).1 hw, by simp⟩
  | succ f ih =>
    intro s l r hf hr hg hp
    rw [path_eq] at hp
    split at hp
    · rename_i hw
      injection hp with hp
      subst hp
      simp only [ints, List.map_nil, List.append_nil]
      exact ⟨hg, (whole_iff hr).1 hw, by simp⟩
    · obtain ⟨k, hk, e⟩ := firstOf_some hp
      have hk := List.mem_range.1 hk
      cases hs : step H s k with
      | none => rw [hs] at e; cases e
      | some z =>
        rw [hs] at e
        simp only [Option.map_eq_some_iff] at e
        obtain ⟨r', hr', rfl⟩ := e
        have hl := left_step hk hs
        obtain ⟨q1, q2, q3⟩ := ih (by omega) (reps_step hr hs) (goes_snoc hok hk hr hg hs) hr'
        have e : l ++ [(k : Int)] ++ ints r' = l ++ ints (k :: r') := by simp [ints]
        rw [e] at q1 q2
        refine ⟨q1, q2, fun i hi => ?_⟩
        rcases List.mem_cons.1 hi with rfl | hi
        · exact hk
        · exact q3 i hi
/-- The search from the start. -/
theorem found_right {H : Hist} (hok : H.Ok) {r : List Nat} (h : path H (0, -1) = some r) : FollowsP H (ints r) ∧ ∀ k ∈ r, k < H.n := by
  obtain ⟨h1, h2, h3⟩ := path_sound hok _ rfl (reps_nil H) ⟨fun i hi => by simp at hi, fun i hi => by simp at hi⟩ h
  simp only [List.nil_append] at h1 h2
  exact ⟨(follows_ref hok).2 ⟨h1.1, h1.2, h2⟩, h3⟩
end Go.Proofs.Ytddbebhklmaeoaa.JL
