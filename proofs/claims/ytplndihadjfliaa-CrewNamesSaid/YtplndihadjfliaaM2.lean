/-
  A ROW OF GOROUTINES: a value passes within the row.
-/
import Derived.Test.YtplndihadjfliaaM1
import Derived.Conc.PipeGen
import Derived.Conc.Quits
import Derived.Conc.DeferLaws
import Derived.Conc.CompanyWords
set_option linter.unusedSimpArgs false
set_option linter.unusedVariables false
namespace Go.Proofs.Ytplndihadjfliaa.Net
open Go Go.Conc Go.ConcN

section
variable {b m : Nat} {c : Nat → Nat} {F : Nat → Value → Value} {e : Nat → List Value} {st : Nat → St} {a : Abs}

theorem Row.pass1 (R : Row b (m + 1) c F e st a) {p : Nat} {v : Value} {as bs : List Do} (hp : p + 1 < m + 1) (hs : a.sc (b + p) = .pr (.snd (c p) v) :: as) (hr : a.sc (b + (p + 1)) = .pr (.rcv (c p) v) :: bs) :
    ∃ e' st', Row b (m + 1) c F e' st' (a.pass (b + p) (b + (p + 1)) as bs) ∧ e' m = e m ∧ (st' m = .done ↔ st m = .done) := by
  have h1 := R.sent (by omega) (R.head (by omega) hs)
  obtain ⟨q, es', hq, _, hl, he', hb⟩ := (R.head hp hr).isRcv
  obtain rfl : q = p := by omega
  have hds : st q ≠ .done := R.notDone (by omega) he'
  have hdl : ∀ k, k < m + 1 → q ≤ k → st k ≠ .done ∧ st k ≠ .clos := by
    intro k hk hqk
    induction k with
    | zero => 
      have : q = 0 := by omega
      subst this
      refine ⟨hds, fun h => ?_⟩
      rcases R.z0 (by omega) with h' | h' <;> rw [h'] at h <;> cases h
    | succ k ih =>
      rcases Nat.lt_or_ge k q with hlt | hge
      · obtain rfl : q = k + 1 := by omega
        refine ⟨hds, fun h => ?_⟩
        have := R.em k hk
        rw [h, he'] at this
        cases this
      · have := (ih (by omega) hge).1
        exact ⟨fun h => this (R.dn k hk (.inr h)), fun h => this (R.dn k hk (.inl h))⟩
  have hem := R.em q hp
  rw [hl, he'] at hem
  simp only [St.emit, List.map_cons] at hem
  refine ⟨put e q es', put (put st q (.live none)) (q + 1) (.live (some (F (q + 1) v))), ⟨R.nn, R.b0, R.inj, R.chs, fun j hj j0 => ?_, fun _ => ?_, fun k hk => ?_, fun k hk => ?_, fun k hk hd => ?_, fun _ hd => ?_, fun _ => ?_, fun k hk => ?_, fun k hk hd => ?_, fun k hk hd => ?_⟩, put_ne _ _ (by omega), ?_⟩
  · obtain ⟨x1, x2⟩ := R.old j hj j0
    refine ⟨?_, x2⟩
    simp only [Abs.pass, put, show j ≠ b + (q + 1) by omega, show j ≠ b + q by omega, if_false]
    exact x1
  · by_cases hq0 : q = 0
    · subst hq0
      rcases h1 with ⟨es, h1⟩
      rcases h1 with ⟨h2, h3, _⟩ | ⟨q', es, h2, _⟩
      · rw [he'] at h2; cases h2
        simp only [Abs.pass, put, show b ≠ b + (0 + 1) by omega, if_false, Nat.add_zero, if_true, show (0 : Nat) ≠ 0 + 1 by omega]
        exact h3
      · omega
    · simp only [Abs.pass, put, show b ≠ b + (q + 1) by omega, show b ≠ b + q by omega, show (0 : Nat) ≠ q + 1 by omega, show (0 : Nat) ≠ q by omega, if_false]
      exact R.s0 (by omega)
  · by_cases h2 : k = q
    · subst h2
      simp only [Abs.pass, put, show b + k + 1 = b + (k + 1) by omega, if_true]
      exact hb
    · by_cases h3 : k + 1 = q
      · subst h3
        rcases h1 with ⟨es, h1⟩
        rcases h1 with ⟨_, _, h2⟩ | ⟨q', es, h2, _, _, h4⟩
        · omega
        · obtain rfl : q' = k := by omega
          simp only [Abs.pass, put, show b + q' + 1 = b + (q' + 1) by omega, show b + (q' + 1) ≠ b + (q' + 1 + 1) by omega, show q' + 1 ≠ q' + 1 + 1 by omega, show q' ≠ q' + 1 by omega, if_false, if_true]
          exact h4
      · simp only [Abs.pass, put, show b + k + 1 ≠ b + (q + 1) by omega, show b + k + 1 ≠ b + q by omega, show k + 1 ≠ q + 1 by omega, h2, h3, if_false]
        exact R.sc k hk
  · by_cases h2 : k = q
    · subst h2
      simp only [put, show k + 1 ≠ k by omega, if_false, if_true]
      exact hem
    · by_cases h3 : k + 1 = q
      · subst h3
        rcases h1 with ⟨es, h1⟩
        rcases h1 with ⟨_, _, h2⟩ | ⟨q', es, h2, h5, h6, _⟩
        · omega
        · obtain rfl : q' = k := by omega
          rw [he'] at h5; cases h5
          simp only [put, show q' + 1 ≠ q' + 1 + 1 by omega, show q' ≠ q' + 1 by omega, if_false, if_true]
          exact h6
      · simp only [put, show k + 1 ≠ q + 1 by omega, h2, h3, if_false]
        exact R.em k hk
  · have hk' : ¬ (q ≤ k + 1) := by
      intro hle
      by_cases h2 : k + 1 = q + 1
      · simp only [put, h2, if_true] at hd; rcases hd with hd | hd <;> cases hd
      · by_cases h3 : k + 1 = q
        · simp only [put, h3, if_true, show q ≠ q + 1 by omega, if_false] at hd; rcases hd with hd | hd <;> cases hd
        · simp only [put, h2, h3, if_false] at hd
          obtain ⟨y1, y2⟩ := hdl (k + 1) hk hle
          rcases hd with hd | hd
          · exact y2 hd
          · exact y1 hd
    simp only [put, show k + 1 ≠ q + 1 by omega, show k + 1 ≠ q by omega, show k ≠ q + 1 by omega, show k ≠ q by omega, if_false] at hd ⊢
    exact R.dn k hk hd
  · by_cases h2 : q = 0
    · subst h2; simp [put] at hd
    · simp only [put, show (0 : Nat) ≠ q + 1 by omega, show (0 : Nat) ≠ q by omega, if_false] at hd ⊢
      exact R.e0 (by omega) hd
  · by_cases h2 : q = 0
    · subst h2; exact .inr (by simp [put])
    · simp only [put, show (0 : Nat) ≠ q + 1 by omega, show (0 : Nat) ≠ q by omega, if_false]
      exact R.z0 (by omega)
  · by_cases h2 : k = q + 1
    · subst h2
      have := (hdl (q + 1) hk (by omega)).1
      have h3 := R.sh (q + 1) hk
      simp only [put, if_true]
      exact ⟨fun h => absurd (h3.1 h) this, fun h => by cases h⟩
    · by_cases h3 : k = q
      · subst h3
        simp only [put, h2, if_false, if_true]
        exact ⟨fun h => absurd ((R.sh k hk).1 h) hds, fun h => by cases h⟩
      · simp only [put, h2, h3, if_false]; exact R.sh k hk
  · have h2 : k ≠ q + 1 := by rintro rfl; simp only [put, if_true] at hd; rcases hd with hd | hd <;> cases hd
    have h3 : k ≠ q := by rintro rfl; simp only [put, h2, if_false, if_true] at hd; rcases hd with hd | hd <;> cases hd
    simp only [put, h2, h3, if_false] at hd
    exact R.kn k hk hd
  · have h2 : k ≠ q + 1 := by rintro rfl; simp only [put, if_true] at hd; cases hd
    have h3 : k ≠ q := by rintro rfl; simp only [put, h2, if_false, if_true] at hd; cases hd
    simp only [put, h2, h3, if_false] at hd
    exact R.kc k hk hd
  · by_cases h2 : m = q + 1
    · subst h2
      simp only [put, if_true]
      exact ⟨fun h => (by cases h), fun h => absurd h (hdl (q + 1) (by omega) (by omega)).1⟩
    · simp only [put, h2, show m ≠ q by omega, if_false]

end
end Go.Proofs.Ytplndihadjfliaa.Net
/-
  A ROW OF GOROUTINES: the last hands a value to goroutine 0.
-/
set_option linter.unusedSimpArgs false
set_option linter.unusedVariables false
namespace Go.Proofs.Ytplndihadjfliaa.Net
open Go Go.Conc Go.ConcN

section
variable {b m : Nat} {c : Nat → Nat} {F : Nat → Value → Value} {e : Nat → List Value} {st : Nat → St} {a : Abs}

theorem Row.pass2 (R : Row b (m + 1) c F e st a) {v : Value} {es' : List Value} {as bs : List Do} (hs : a.sc (b + m) = .pr (.snd (c m) v) :: as) (he' : e m = v :: es') :
    ∃ e' st', Row b (m + 1) c F e' st' (a.pass (b + m) 0 as bs) ∧ e' m = es' := by
  have h1 := R.sent (by omega) (R.head (by omega) hs)
  have hds : st m ≠ .done := R.notDone (by omega) he'
  have b0 := R.b0
  refine ⟨put e m es', put st m (.live none), ⟨R.nn, R.b0, R.inj, R.chs, fun j hj j0 => ?_, fun _ => ?_, fun k hk => ?_, fun k hk => ?_, fun k hk hd => ?_, fun _ hd => ?_, fun _ => ?_, fun k hk => ?_, fun k hk hd => ?_, fun k hk hd => ?_⟩, put_same _ _ _⟩
  · obtain ⟨x1, x2⟩ := R.old j hj j0
    refine ⟨?_, x2⟩
    simp only [Abs.pass, put, show j ≠ b + m by omega, j0, if_false]
    exact x1
  · by_cases hq0 : m = 0
    · subst hq0
      rcases h1 with ⟨es, h1⟩
      rcases h1 with ⟨h2, h3, _⟩ | ⟨q', es, h2, _⟩
      · rw [he'] at h2; cases h2
        simp only [Abs.pass, put, show b ≠ 0 by omega, if_false, Nat.add_zero, if_true]
        exact h3
      · omega
    · simp only [Abs.pass, put, show b ≠ b + m by omega, show b ≠ 0 by omega, show (0 : Nat) ≠ m by omega, if_false]
      exact R.s0 (by omega)
  · by_cases h3 : k + 1 = m
    · subst h3
      rcases h1 with ⟨es, h1⟩
      rcases h1 with ⟨_, _, h2⟩ | ⟨q', es, h2, _, _, h4⟩
      · omega
      · obtain rfl : q' = k := by omega
        simp only [Abs.pass, put, show b + q' + 1 = b + (q' + 1) by omega, show b + (q' + 1) ≠ 0 by omega, show q' ≠ q' + 1 by omega, if_false, if_true]
        exact h4
    · simp only [Abs.pass, put, show b + k + 1 ≠ 0 by omega, show b + k + 1 ≠ b + m by omega, show k ≠ m by omega, h3, if_false]
      exact R.sc k hk
  · by_cases h3 : k + 1 = m
    · subst h3
      rcases h1 with ⟨es, h1⟩
      rcases h1 with ⟨_, _, h2⟩ | ⟨q', es, h2, h5, h6, _⟩
      · omega
      · obtain rfl : q' = k := by omega
        rw [he'] at h5; cases h5
        simp only [put, show q' ≠ q' + 1 by omega, if_false, if_true]
        exact h6
    · simp only [put, show k ≠ m by omega, h3, if_false]
      exact R.em k hk
  · by_cases h3 : k + 1 = m
    · simp only [put, h3, if_true] at hd; rcases hd with hd | hd <;> cases hd
    · simp only [put, show k ≠ m by omega, h3, if_false] at hd ⊢
      exact R.dn k hk hd
  · by_cases h2 : m = 0
    · subst h2; simp [put] at hd
    · simp only [put, show (0 : Nat) ≠ m by omega, if_false] at hd ⊢
      exact R.e0 (by omega) hd
  · by_cases h2 : m = 0
    · subst h2; exact .inr (by simp [put])
    · simp only [put, show (0 : Nat) ≠ m by omega, if_false]
      exact R.z0 (by omega)
  · by_cases h3 : k = m
    · subst h3
      simp only [put, if_true]
      exact ⟨fun h => absurd ((R.sh k hk).1 h) hds, fun h => (by cases h)⟩
    · simp only [put, h3, if_false]; exact R.sh k hk
  · have h3 : k ≠ m := by rintro rfl; simp only [put, if_true] at hd; rcases hd with hd | hd <;> cases hd
    simp only [put, h3, if_false] at hd
    exact R.kn k hk hd
  · have h3 : k ≠ m := by rintro rfl; simp only [put, if_true] at hd; cases hd
    simp only [put, h3, if_false] at hd
    exact R.kc k hk hd

end
end Go.Proofs.Ytplndihadjfliaa.Net
/-
  A ROW OF GOROUTINES: Law's field 'pass'.
-/
set_option linter.unusedSimpArgs false
set_option linter.unusedVariables false
namespace Go.Proofs.Ytplndihadjfliaa.Net
open Go Go.Conc Go.ConcN

section
variable {b : Nat} {a : Abs}

theorem krow_pass {i j k : Nat} {v v' : Value} {as bs : List Do} (h : KRow b a) (hi : i < a.n) (hj : j < a.n) (hs : a.sc i = .pr (.snd k v) :: as) (hr : a.sc j = .pr (.rcv k v') :: bs) :
    i ≠ j ∧ v = v' ∧ KRow b (a.pass i j as bs) ∧ rank (a.pass i j as bs) < rank a := by
  have hij : i ≠ j := by rintro rfl; rw [hs] at hr; cases hr
  refine ⟨hij, ?_⟩
  rcases h.two with ⟨T, c0, vs, l, hn, _, old, _, h0⟩ | ⟨m, c, F, e, st, R, M⟩
  · exact (start_only hn old h0 hi hs).elim
  obtain ⟨p, hp, rfl, rfl, ⟨es, he⟩, hd, hh⟩ := R.sndAt M hi hs
  obtain ⟨q, hq, hk, ⟨es', he'⟩, hw⟩ := R.rcvAt M hj hr
  obtain rfl : p = q := R.inj p q hp hq hk
  rw [he] at he'
  cases he'
  refine ⟨rfl, ?_, rank_pass hi hj hij hs hr⟩
  have b0 := R.b0
  rcases hw with ⟨hq1, rfl⟩ | ⟨rfl, rfl⟩
  · obtain ⟨e', st', R', x1, x2⟩ := R.pass1 hq1 hs hr
    have hs0 : (a.pass (b + p) (b + (p + 1)) as bs).sc 0 = a.sc 0 := by simp only [Abs.pass, put, show (0 : Nat) ≠ b + (p + 1) by omega, show (0 : Nat) ≠ b + p by omega, if_false]
    rcases M with ⟨l, hf, h0⟩ | ⟨hdm, h0⟩
    · exact .go l R' hf (by rw [hs0, h0, x1])
    · have : ∀ k, k < m + 1 → p ≤ k → st k = .done → st p = .done := by
        intro k hk hpk
        induction k with
        | zero => intro h; obtain rfl : p = 0 := by omega
                  exact h
        | succ k ih =>
          intro h
          rcases Nat.lt_or_ge k p with hlt | hge
          · obtain rfl : p = k + 1 := by omega
            exact h
          · exact ih (by omega) hge (R.dn k hk (.inr h))
      exact absurd (this m (by omega) (by omega) hdm) hd
  · obtain ⟨e', st', R', x1⟩ := R.pass2 hs he
    rcases M with ⟨l, hf, h0⟩ | ⟨hdm, h0⟩
    · rw [h0] at hr
      rcases mains_head hr with ⟨_, _, h, _⟩ | ⟨rfl, v', vs, hx, h, ha⟩ | ⟨_, _, _, _, h, _⟩
      · cases h
      · rw [he] at hx
        cases hx
        refine .go [] R' hf ?_
        have : (a.pass (b + p) 0 as bs).sc 0 = bs := by simp [Abs.pass, put]
        rw [this, x1, ha]
      · cases h
    · rw [h0] at hr; cases hr

end
end Go.Proofs.Ytplndihadjfliaa.Net
/-
  A ROW OF GOROUTINES: Law's fields 'pos' and 'last'.
-/
set_option linter.unusedSimpArgs false
set_option linter.unusedVariables false
namespace Go.Proofs.Ytplndihadjfliaa.Net
open Go Go.Conc Go.ConcN

section
variable {b : Nat} {a : Abs}

theorem krow_pos (h : KRow b a) : 0 < a.n := by
  rcases h.two with ⟨T, c0, vs, l, hn, b0, _⟩ | ⟨m, c, F, e, st, R, M⟩
  · omega
  · have := R.nn; omega

theorem mains_ne (ci : Nat) (xs : List Value) (l : List (Nat × (Value → Value))) : mains ci xs l ≠ [] := by
  cases l with
  | nil => simp [mains]
  | cons x l => obtain ⟨co, F⟩ := x; simp [mains]

theorem Row.allDone {m : Nat} {c : Nat → Nat} {F : Nat → Value → Value} {e : Nat → List Value} {st : Nat → St} (R : Row b (m + 1) c F e st a) (h : st m = .done) : ∀ d, d ≤ m → st (m - d) = .done := by
  intro d
  induction d with
  | zero => intro _; exact h
  | succ d ih =>
    intro hd
    refine R.dn (m - (d + 1)) (by omega) (.inr ?_)
    rw [show m - (d + 1) + 1 = m - d by omega]
    exact ih (by omega)

theorem krow_last (h : KRow b a) (h0 : a.sc 0 = []) : ∀ j, j < a.n → j ≠ 0 → a.sc j = [] ∧ j ∈ a.kn 0 := by
  cases h with
  | start T c0 vs l _ _ _ _ hs => rw [h0] at hs; cases hs
  | go l R hf hs => rw [h0] at hs; exact absurd hs.symm (mains_ne _ _ _)
  | @fin m c F e st R hd hk hs =>
    intro j hj j0
    have hn := R.nn
    rcases Nat.lt_or_ge j b with hlt | hge
    · exact R.old j hlt j0
    · obtain ⟨p, rfl⟩ := Nat.exists_eq_add_of_le hge
      refine ⟨?_, hk p (by omega)⟩
      have hdp : st p = .done := by have := R.allDone hd (m - p) (by omega); rwa [show m - (m - p) = p by omega] at this
      cases p with
      | zero => have := R.s0 (by omega); rw [hdp] at this; simpa [St.scr0] using this
      | succ q => have := R.sc q (by omega); rw [hdp] at this; simpa [St.scr, Nat.add_assoc] using this

end
end Go.Proofs.Ytplndihadjfliaa.Net
/-
  A ROW OF GOROUTINES: Law's field 'cls'.
-/
set_option linter.unusedSimpArgs false
set_option linter.unusedVariables false
namespace Go.Proofs.Ytplndihadjfliaa.Net
open Go Go.Conc Go.ConcN

section
variable {b m : Nat} {c : Nat → Nat} {F : Nat → Value → Value} {e : Nat → List Value} {st : Nat → St} {a : Abs}

/-- Who closes: where it stands, what it has still to hand on. -/
theorem Row.clsAt (R : Row b (m + 1) c F e st a) (M : Main0 m c e st a) {i k : Nat} {as : List Do} (hi : i < a.n) (h : a.sc i = .pr (.cls k) :: as) :
    ∃ p, p < m + 1 ∧ i = b + p ∧ k = c p ∧ as = [] ∧ e p = [] ∧ st p ≠ .done ∧ (∀ q, q < p → b + q ∈ a.kn (b + p)) ∧ (∀ q, p = q + 1 → st p = .clos) := by
  rcases R.who hi (by rw [h]; simp) with rfl | ⟨p, hp, rfl⟩
  · rcases M with ⟨l, _, h0⟩ | ⟨_, h0⟩
    · rw [h0] at h
      rcases mains_head h with ⟨_, _, h, _⟩ | ⟨_, _, _, _, h, _⟩ | ⟨_, _, _, _, h, _⟩ <;> cases h
    · rw [h0] at h; cases h
  · obtain ⟨hk, ha, h1⟩ := (R.head hp h).isCls
    refine ⟨p, hp, rfl, hk, ha, ?_⟩
    rcases h1 with ⟨rfl, hs, he⟩ | ⟨q, rfl, hs⟩
    · exact ⟨he, by rw [hs]; simp, fun q hq => by omega, fun q hq => by omega⟩
    · exact ⟨by rw [R.em q hp, hs]; rfl, by rw [hs]; simp, R.kn _ hp (.inl hs), fun _ _ => hs⟩

theorem Row.close (R : Row b (m + 1) c F e st a) {p : Nat} (hp : p < m + 1) (he : e p = []) (hd : st p ≠ .done) (hkn : ∀ q, q < p → b + q ∈ a.kn (b + p)) (hcl : ∀ q, p = q + 1 → st p = .clos) :
    Row b (m + 1) c F e (put st p .done) (a.close (b + p) (c p)) := by
  have b0 := R.b0
  refine ⟨R.nn, R.b0, R.inj, R.chs, fun j hj j0 => ?_, fun _ => ?_, fun k hk => ?_, fun k hk => ?_, fun k hk h => ?_, fun _ h => ?_, fun _ => ?_, fun k hk => ?_, fun k hk h => ?_, fun k hk h => ?_⟩
  · obtain ⟨x1, x2⟩ := R.old j hj j0
    refine ⟨?_, x2⟩
    simp only [Abs.close, put, show j ≠ b + p by omega, if_false]
    exact x1
  · by_cases h0 : p = 0
    · subst h0; simp [Abs.close, put, St.scr0]
    · simp only [Abs.close, put, show b ≠ b + p by omega, show (0 : Nat) ≠ p by omega, if_false]
      exact R.s0 (by omega)
  · by_cases h2 : k + 1 = p
    · subst h2; simp [Abs.close, put, Nat.add_assoc, St.scr]
    · simp only [Abs.close, put, show b + k + 1 ≠ b + p by omega, h2, if_false]
      exact R.sc k hk
  · by_cases h2 : k + 1 = p
    · subst h2; simp [put, he, St.emit]
    · simp only [put, h2, if_false]; exact R.em k hk
  · by_cases h2 : k = p
    · subst h2; simp [put]
    · by_cases h3 : k + 1 = p
      · subst h3
        simp only [put, h2, if_false]
        exact R.dn k hk (.inl (hcl k rfl))
      · simp only [put, h2, h3, if_false] at h ⊢; exact R.dn k hk h
  · by_cases h2 : p = 0
    · subst h2; exact he
    · simp only [put, show (0 : Nat) ≠ p by omega, if_false] at h; exact R.e0 (by omega) h
  · by_cases h2 : p = 0
    · subst h2; exact .inl (by simp [put])
    · simp only [put, show (0 : Nat) ≠ p by omega, if_false]; exact R.z0 (by omega)
  · by_cases h2 : k = p
    · subst h2; simp [Abs.close, put]
    · have h3 : c k ≠ c p := fun h => h2 (R.inj k p hk hp h)
      simp only [Abs.close, put, h2, h3, if_false]; exact R.sh k hk
  · by_cases h2 : k = p
    · subst h2; exact hkn
    · simp only [put, h2, if_false] at h; exact R.kn k hk h
  · by_cases h2 : k = p
    · subst h2
      intro q hq
      simp only [Abs.close, put, if_true, List.mem_cons]
      rcases Nat.lt_or_ge q k with hlt | hge
      · exact .inr (hkn q hlt)
      · exact .inl (by omega)
    · have h3 : c k ≠ c p := fun h => h2 (R.inj k p hk hp h)
      simp only [put, h2, if_false] at h
      simp only [Abs.close, put, h3, if_false]; exact R.kc k hk h

theorem krow_cls {i k : Nat} {as : List Do} (h : KRow b a) (hi : i < a.n) (hs : a.sc i = .pr (.cls k) :: as) :
    i ≠ 0 ∧ as = [] ∧ k ∈ a.ch ∧ a.shut k = false ∧ (∀ j v bs, j < a.n → a.sc j ≠ .pr (.rcv k v) :: bs) ∧ (∀ j v bs, j < a.n → a.sc j ≠ .pr (.snd k v) :: bs) ∧
    KRow b (a.close i k) ∧ rank (a.close i k) < rank a := by
  have hrank := rank_close hi hs
  rcases h.two with ⟨T, c0, vs, l, hn, _, old, _, h0⟩ | ⟨m, c, F, e, st, R, M⟩
  · exact (start_only hn old h0 hi hs).elim
  have b0 := R.b0
  obtain ⟨p, hp, rfl, rfl, rfl, he, hd, hkn, hcl⟩ := R.clsAt M hi hs
  refine ⟨by omega, rfl, R.chs p hp, ?_, fun j v bs hj hr => ?_, fun j v bs hj hr => ?_, ?_, hrank⟩
  · cases hsh : a.shut (c p) with
    | false => rfl
    | true => exact absurd ((R.sh p hp).1 hsh) hd
  · obtain ⟨q, hq, hk, ⟨es, he'⟩, _⟩ := R.rcvAt M hj hr
    have := R.inj p q hp hq hk
    subst this
    rw [he] at he'; cases he'
  · obtain ⟨q, hq, _, hk, ⟨es, he'⟩, _⟩ := R.sndAt M hj hr
    have := R.inj p q hp hq hk
    subst this
    rw [he] at he'; cases he'
  · have R' := R.close hp he hd hkn hcl
    have hs0 : (a.close (b + p) (c p)).sc 0 = a.sc 0 := by simp only [Abs.close, put, show (0 : Nat) ≠ b + p by omega, if_false]
    rcases M with ⟨l, hf, h0⟩ | ⟨hdm, h0⟩
    · refine .go l R' ⟨hf.1, fun x hx => ?_⟩ (by rw [hs0, h0])
      obtain ⟨x1, x2⟩ := hf.2 x hx
      refine ⟨x1, ?_⟩
      have : x.1 ≠ c p := fun h => x1 (h ▸ R.chs p hp)
      simp only [Abs.close, put, this, if_false]; exact x2
    · exact absurd (by have := R.allDone hdm (m - p) (by omega); rwa [show m - (m - p) = p by omega] at this) hd

end
end Go.Proofs.Ytplndihadjfliaa.Net
/-
  A ROW OF GOROUTINES: Law's field 'eof'.
-/
set_option linter.unusedSimpArgs false
set_option linter.unusedVariables false
namespace Go.Proofs.Ytplndihadjfliaa.Net
open Go Go.Conc Go.ConcN

section
variable {b m : Nat} {c : Nat → Nat} {F : Nat → Value → Value} {e : Nat → List Value} {st : Nat → St} {a : Abs}

theorem Row.seen1 (R : Row b (m + 1) c F e st a) {q : Nat} (hp : q + 1 < m + 1) (hs : st (q + 1) = .live none) (he : e q = []) (hd : st q = .done) :
    Row b (m + 1) c F e (put st (q + 1) .clos) (a.seen (b + (q + 1)) (c q) [.pr (.cls (c (q + 1)))]) := by
  have b0 := R.b0
  refine ⟨R.nn, R.b0, R.inj, R.chs, fun j hj j0 => ?_, fun _ => ?_, fun k hk => ?_, fun k hk => ?_, fun k hk h => ?_, fun _ h => ?_, fun _ => ?_, fun k hk => ?_, fun k hk h => ?_, fun k hk h => ?_⟩
  · obtain ⟨x1, x2⟩ := R.old j hj j0
    simp only [Abs.seen, put, show j ≠ b + (q + 1) by omega, show (0 : Nat) ≠ b + (q + 1) by omega, if_false]
    exact ⟨x1, x2⟩
  · simp only [Abs.seen, put, show b ≠ b + (q + 1) by omega, show (0 : Nat) ≠ q + 1 by omega, if_false]
    exact R.s0 (by omega)
  · by_cases h2 : k = q
    · subst h2; simp [Abs.seen, put, Nat.add_assoc, St.scr]
    · simp only [Abs.seen, put, show b + k + 1 ≠ b + (q + 1) by omega, show k + 1 ≠ q + 1 by omega, if_false]
      exact R.sc k hk
  · by_cases h2 : k = q
    · subst h2
      have := R.em k hp
      rw [hs, he] at this
      simp [put, this, St.emit]
    · simp only [put, show k + 1 ≠ q + 1 by omega, if_false]; exact R.em k hk
  · by_cases h2 : k = q
    · subst h2; simp only [put, show k ≠ k + 1 by omega, if_false]; exact hd
    · simp only [put, show k + 1 ≠ q + 1 by omega, if_false] at h
      have := R.dn k hk h
      have h3 : k ≠ q + 1 := by rintro rfl; rw [hs] at this; cases this
      simp only [put, h3, if_false]; exact this
  · simp only [put, show (0 : Nat) ≠ q + 1 by omega, if_false] at h; exact R.e0 (by omega) h
  · simp only [put, show (0 : Nat) ≠ q + 1 by omega, if_false]; exact R.z0 (by omega)
  · by_cases h2 : k = q + 1
    · subst h2
      have := R.sh (q + 1) hk
      rw [hs] at this
      simp only [put, if_true]
      exact ⟨fun h => (by have := this.1 h; cases this), fun h => by cases h⟩
    · simp only [put, h2, if_false]; exact R.sh k hk
  · by_cases h2 : k = q + 1
    · subst h2
      intro q' hq'
      simp only [Abs.seen, put, if_true, List.mem_append]
      exact .inl (R.kc q (by omega) hd q' (by omega))
    · simp only [put, h2, if_false] at h
      simp only [Abs.seen, put, show b + k ≠ b + (q + 1) by omega, if_false]
      exact R.kn k hk h
  · have h2 : k ≠ q + 1 := by rintro rfl; simp only [put, if_true] at h; cases h
    simp only [put, h2, if_false] at h
    exact R.kc k hk h

theorem Row.seen0 (R : Row b (m + 1) c F e st a) (as : List Do) (k : Nat) : Row b (m + 1) c F e st (a.seen 0 k as) := by
  have b0 := R.b0
  refine ⟨R.nn, R.b0, R.inj, R.chs, fun j hj j0 => ?_, fun _ => ?_, fun k hk => ?_, R.em, R.dn, R.e0, R.z0, R.sh, fun k hk h => ?_, R.kc⟩
  · obtain ⟨x1, x2⟩ := R.old j hj j0
    simp only [Abs.seen, put, j0, if_false, if_true, List.mem_append]
    exact ⟨x1, .inr x2⟩
  · simp only [Abs.seen, put, show b ≠ 0 by omega, if_false]; exact R.s0 (by omega)
  · simp only [Abs.seen, put, show b + k + 1 ≠ 0 by omega, if_false]; exact R.sc k hk
  · simp only [Abs.seen, put, show b + k ≠ 0 by omega, if_false]; exact R.kn k hk h

theorem krow_eof {i k : Nat} {as : List Do} (h : KRow b a) (hi : i < a.n) (hs : a.sc i = .pr (.eof k) :: as) (hsh : a.shut k = true) : KRow b (a.seen i k as) ∧ rank (a.seen i k as) < rank a := by
  have hrank := rank_seen hi hs
  refine ⟨?_, hrank⟩
  rcases h.two with ⟨T, c0, vs, l, hn, _, old, _, h0⟩ | ⟨m, c, F, e, st, R, M⟩
  · exact (start_only hn old h0 hi hs).elim
  have b0 := R.b0
  obtain ⟨q, hq, rfl, he, hw⟩ := R.eofAt M hi hs
  have hd := (R.sh q hq).1 hsh
  rcases hw with ⟨hq1, rfl⟩ | ⟨rfl, rfl⟩
  · obtain ⟨q', hq', _, hl, _, ha⟩ := (R.head hq1 hs).isEof
    obtain rfl : q' = q := by omega
    subst ha
    have R' := R.seen1 hq1 hl he hd
    have hs0 : (a.seen (b + (q' + 1)) (c q') [.pr (.cls (c (q' + 1)))]).sc 0 = a.sc 0 := by simp only [Abs.seen, put, show (0 : Nat) ≠ b + (q' + 1) by omega, if_false]
    rcases M with ⟨l, hf, h0⟩ | ⟨hdm, h0⟩
    · exact .go l R' hf (by rw [hs0, h0])
    · have := R.allDone hdm (m - (q' + 1)) (by omega)
      rw [show m - (m - (q' + 1)) = q' + 1 by omega, hl] at this
      cases this
  · rcases M with ⟨l, hf, h0⟩ | ⟨hdm, h0⟩
    · rw [h0] at hs
      rcases mains_head hs with ⟨_, _, _, ha⟩ | ⟨_, _, _, _, h, _⟩ | ⟨_, _, _, _, h, _⟩
      · subst ha
        refine .fin (R.seen0 [] (c q)) hd (fun k hk => ?_) (by simp [Abs.seen, put])
        simp only [Abs.seen, put, if_true, List.mem_append]
        exact .inl (R.kc q hq hd k hk)
      · cases h
      · cases h
    · rw [h0] at hs; cases hs

end
end Go.Proofs.Ytplndihadjfliaa.Net
/-
  A ROW OF GOROUTINES: Law's field 'fork'.
-/
set_option linter.unusedSimpArgs false
set_option linter.unusedVariables false
namespace Go.Proofs.Ytplndihadjfliaa.Net
open Go Go.Conc Go.ConcN

section
variable {b m : Nat} {c : Nat → Nat} {F : Nat → Value → Value} {e : Nat → List Value} {st : Nat → St} {a : Abs}

theorem src_ne (c : Nat) (vs : List Value) : src c vs ≠ [] := by simp [src]
theorem hnd_ne (ci co : Nat) (F : Value → Value) (xs : List Value) : hnd ci co F xs ≠ [] := by cases xs <;> simp [hnd]

theorem Row.first {T : List Nat} {c0 : Nat} {vs : List Value} {as : List Do} (hn : a.n = b) (b0 : 0 < b) (old : ∀ j, j < b → j ≠ 0 → a.sc j = [] ∧ j ∈ a.kn 0) (hsh : a.shut c0 = false) :
    Row b (0 + 1) (fun _ => c0) (fun _ v => v) (fun _ => vs) (fun _ => .live none) (a.fork [c0] (src c0 vs) as) := by
  refine ⟨by show a.n + 1 = _; omega, b0, fun p q _ _ _ => by omega, fun p hp => by simp [Abs.fork], fun j hj j0 => ?_, fun _ => ?_, fun k hk => by omega, fun k hk => by omega, fun k hk => by omega, fun _ h => (by cases h), fun _ => .inr rfl, fun k hk => ?_, fun k hk h => ?_, fun k hk h => (by cases h)⟩
  · obtain ⟨x1, x2⟩ := old j hj j0
    simp only [Abs.fork, put, show j ≠ a.n by omega, show (0 : Nat) ≠ a.n by omega, j0, if_false]
    exact ⟨x1, x2⟩
  · simp [Abs.fork, put, hn, St.scr0]
  · show a.shut c0 = true ↔ _
    rw [hsh]
    exact ⟨fun h => (by cases h), fun h => by cases h⟩
  · rcases h with h | h <;> cases h

theorem Row.next (R : Row b (m + 1) c F e st a) {co : Nat} {G : Value → Value} {as : List Do} (hc : co ∉ a.ch) (hsh : a.shut co = false) :
    Row b (m + 1 + 1) (put c (m + 1) co) (put F (m + 1) G) (put e (m + 1) ((e m).map G)) (put st (m + 1) (.live none)) (a.fork [co] (hnd (c m) co G (e m)) as) := by
  have b0 := R.b0
  have hn := R.nn
  refine ⟨by show a.n + 1 = _; omega, b0, fun p q hp hq h => ?_, fun p hp => ?_, fun j hj j0 => ?_, fun _ => ?_, fun k hk => ?_, fun k hk => ?_, fun k hk h => ?_, fun _ h => ?_, fun _ => ?_, fun k hk => ?_, fun k hk h => ?_, fun k hk h => ?_⟩
  · by_cases h1 : p = m + 1
    · by_cases h2 : q = m + 1
      · omega
      · simp only [put, h1, h2, if_false, if_true] at h
        exact absurd (h ▸ R.chs q (by omega)) hc
    · by_cases h2 : q = m + 1
      · simp only [put, h1, h2, if_false, if_true] at h
        exact absurd (h ▸ R.chs p (by omega)) hc
      · simp only [put, h1, h2, if_false] at h
        exact R.inj p q (by omega) (by omega) h
  · by_cases h1 : p = m + 1
    · simp [Abs.fork, put, h1]
    · simp only [Abs.fork, put, h1, if_false, List.mem_append]
      exact .inr (R.chs p (by omega))
  · obtain ⟨x1, x2⟩ := R.old j hj j0
    simp only [Abs.fork, put, show j ≠ a.n by omega, show (0 : Nat) ≠ a.n by omega, j0, if_false]
    exact ⟨x1, x2⟩
  · simp only [Abs.fork, put, show b ≠ a.n by omega, show b ≠ 0 by omega, show (0 : Nat) ≠ m + 1 by omega, if_false]
    exact R.s0 (by omega)
  · by_cases h1 : k = m
    · subst h1
      simp only [Abs.fork, put, show b + k + 1 = a.n by omega, show k ≠ k + 1 by omega, if_true, if_false, St.scr]
    · simp only [Abs.fork, put, show b + k + 1 ≠ a.n by omega, show b + k + 1 ≠ 0 by omega, show k + 1 ≠ m + 1 by omega, show k ≠ m + 1 by omega, if_false]
      exact R.sc k (by omega)
  · by_cases h1 : k = m
    · subst h1; simp [put, St.emit]
    · simp only [put, show k + 1 ≠ m + 1 by omega, show k ≠ m + 1 by omega, if_false]; exact R.em k (by omega)
  · by_cases h1 : k = m
    · subst h1
      simp only [put, if_true] at h
      rcases h with h | h <;> cases h
    · simp only [put, show k + 1 ≠ m + 1 by omega, show k ≠ m + 1 by omega, if_false] at h ⊢; exact R.dn k (by omega) h
  · simp only [put, show (0 : Nat) ≠ m + 1 by omega, if_false] at h ⊢; exact R.e0 (by omega) h
  · simp only [put, show (0 : Nat) ≠ m + 1 by omega, if_false]; exact R.z0 (by omega)
  · by_cases h1 : k = m + 1
    · subst h1
      simp only [put, if_true]
      show a.shut co = true ↔ _
      rw [hsh]
      exact ⟨fun h => (by cases h), fun h => by cases h⟩
    · simp only [put, h1, if_false]; exact R.sh k (by omega)
  · have h1 : k ≠ m + 1 := by rintro rfl; simp only [put, if_true] at h; rcases h with h | h <;> cases h
    simp only [put, h1, if_false] at h
    simp only [Abs.fork, put, show b + k ≠ a.n by omega, if_false]
    exact R.kn k (by omega) h
  · have h1 : k ≠ m + 1 := by rintro rfl; simp only [put, if_true] at h; cases h
    simp only [put, h1, if_false] at h ⊢
    exact R.kc k (by omega) h

theorem Fresh.tail {x : Nat × (Value → Value)} {l : List (Nat × (Value → Value))} (h : Fresh a (x :: l)) (kid : List Pr) (as : List Do) : Fresh (a.fork [x.1] kid as) l := by
  obtain ⟨h1, h2⟩ := h
  rw [List.map_cons, List.nodup_cons] at h1
  refine ⟨h1.2, fun y hy => ?_⟩
  obtain ⟨x1, x2⟩ := h2 y (by simp [hy])
  refine ⟨?_, x2⟩
  simp only [Abs.fork, List.cons_append, List.nil_append, List.mem_cons, not_or]
  exact ⟨fun h => h1.1 (h ▸ List.mem_map_of_mem hy), x1⟩

theorem krow_fork {i : Nat} {T cs : List Nat} {kid : List Pr} {as : List Do} (h : KRow b a) (hi : i < a.n) (hs : a.sc i = .fork T cs kid :: as) :
    i = 0 ∧ kid ≠ [] ∧ (∀ c ∈ cs, a.shut c = false) ∧ KRow b (a.fork cs kid as) ∧ rank (a.fork cs kid as) < rank a := by
  have i0 : i = 0 := by
    rcases h.two with ⟨T, c0, vs, l, hn, _, old, _, h0⟩ | ⟨m, c, F, e, st, R, M⟩
    · by_cases e0 : i = 0
      · exact e0
      · rw [(old i (by omega) e0).1] at hs; cases hs
    · rcases R.who hi (by rw [hs]; simp) with e0 | ⟨p, hp, rfl⟩
      · exact e0
      · exact (R.head hp hs).noFork.elim
  subst i0
  refine ⟨rfl, ?_⟩
  have hrank := rank_fork hi hs
  cases h with
  | start T c0 vs l hn b0 old hf h0 =>
    rw [h0] at hs
    cases hs
    have hsh := (hf.2 (c0, id) (by simp)).2
    refine ⟨src_ne _ _, fun c hc => ?_, ?_, hrank⟩
    · simp only [List.mem_singleton] at hc; subst hc; exact hsh
    · refine .go l (Row.first (T := []) hn b0 old hsh) (hf.tail _ _) ?_
      simp only [Abs.fork, put, show (0 : Nat) ≠ a.n by omega, if_false, if_true]
  | @go m c F e st l R hf h0 =>
    rw [h0] at hs
    rcases mains_head hs with ⟨_, _, h, _⟩ | ⟨_, _, _, _, h, _⟩ | ⟨co, G, l', rfl, h, rfl⟩
    · cases h
    · cases h
    · cases h
      obtain ⟨x1, x2⟩ := hf.2 (co, G) (by simp)
      refine ⟨hnd_ne _ _ _ _, fun c hc => ?_, ?_, hrank⟩
      · simp only [List.mem_singleton] at hc; subst hc; exact x2
      · refine .go l' (R.next x1 x2) (hf.tail _ _) ?_
        have := R.nn
        simp only [Abs.fork, put, show (0 : Nat) ≠ a.n by omega, if_false, if_true]
  | fin R hd hk h0 => rw [h0] at hs; cases hs

/-- Law's field 'live'. -/
theorem Row.alive (R : Row b (m + 1) c F e st a) : ∀ p t, p < m + 1 → t < a.n → t ≠ b + p → ((∃ v es bs, e p = v :: es ∧ a.sc t = .pr (.rcv (c p) v) :: bs) ∨ (e p = [] ∧ ∃ bs, a.sc t = .pr (.eof (c p)) :: bs)) → ∃ i, i < a.n ∧ a.Live i := by
  have hn := R.nn
  intro p
  induction p with
  | zero =>
    intro t hp ht hne h
    have h0 := R.s0 hp
    rcases R.z0 hp with hd | hd
    · have he := R.e0 hp hd
      rcases h with ⟨v, es, bs, he', _⟩ | ⟨_, bs, hs⟩
      · rw [he] at he'; cases he'
      · exact ⟨t, ht, .inr (.inr (.inr (.inl ⟨_, _, hs, (R.sh 0 hp).2 hd⟩)))⟩
    · rw [hd] at h0
      rcases h with ⟨v, es, bs, he, hs⟩ | ⟨he, bs, hs⟩
      · rw [he] at h0
        simp only [St.scr0, src, List.map_cons, List.cons_append] at h0
        exact ⟨b, by omega, .inr (.inr (.inr (.inr ⟨c 0, v, _, t, bs, ht, by simpa using hne, h0, hs⟩)))⟩
      · rw [he] at h0
        exact ⟨b, by omega, .inr (.inl ⟨_, _, h0⟩)⟩
  | succ q ih =>
    intro t hp ht hne h
    have h0 := R.sc q hp
    have hem := R.em q hp
    cases hs' : st (q + 1) with
    | done =>
      rw [hs'] at hem
      rcases h with ⟨v, es, bs, he', _⟩ | ⟨_, bs, hs⟩
      · rw [hem] at he'; cases he'
      · exact ⟨t, ht, .inr (.inr (.inr (.inl ⟨_, _, hs, (R.sh (q + 1) hp).2 hs'⟩)))⟩
    | clos =>
      rw [hs'] at h0
      exact ⟨b + q + 1, by omega, .inr (.inl ⟨_, _, h0⟩)⟩
    | live o =>
      cases o with
      | some v =>
        rw [hs'] at h0 hem
        rcases h with ⟨v', es, bs, he, hs⟩ | ⟨he, bs, hs⟩
        · rw [hem] at he
          cases he
          exact ⟨b + q + 1, by omega, .inr (.inr (.inr (.inr ⟨_, v, _, t, bs, ht, hne, h0, hs⟩)))⟩
        · rw [hem] at he; cases he
      | none =>
        rw [hs'] at h0
        refine ih (b + q + 1) (by omega) (by omega) (by omega) ?_
        cases he : e q with
        | nil => rw [he] at h0; exact .inr ⟨rfl, _, h0⟩
        | cons v es => rw [he] at h0; exact .inl ⟨v, es, _, rfl, h0⟩

theorem krow_live (h : KRow b a) : ∃ i, i < a.n ∧ a.Live i := by
  have hpos := krow_pos h
  cases h with
  | start T c0 vs l hn b0 old hf h0 => exact ⟨0, hpos, .inr (.inr (.inl ⟨_, _, _, _, h0⟩))⟩
  | @go m c F e st l R hf h0 =>
    have b0 := R.b0
    cases l with
    | nil =>
      refine R.alive m 0 (by omega) hpos (by omega) ?_
      cases he : e m with
      | nil => rw [he] at h0; exact .inr ⟨rfl, _, h0⟩
      | cons v es => rw [he] at h0; exact .inl ⟨v, es, _, rfl, h0⟩
    | cons x l =>
      obtain ⟨co, G⟩ := x
      exact ⟨0, hpos, .inr (.inr (.inl ⟨_, _, _, _, h0⟩))⟩
  | fin R hd hk h0 => exact ⟨0, hpos, .inl ⟨rfl, h0⟩⟩

/-- THE ROW MEETS THE LAW. -/
theorem krow_law (b : Nat) : Law (KRow b) rank where
  pos _ h := krow_pos h
  pass _ _ _ _ _ _ _ _ h hi hj hs hr := krow_pass h hi hj hs hr
  noEof _ _ _ _ _ _ _ h hi hj hs := krow_noEof h hi hj hs
  sndOpen _ _ _ _ _ h hi hs := krow_sndOpen h hi hs
  rcvOpen _ _ _ _ _ h hi hs := krow_rcvOpen h hi hs
  eofIn _ _ _ _ h hi hs := krow_eofIn h hi hs
  sndOne _ _ _ _ _ _ _ _ h hi hj hs hs' := krow_sndOne h hi hj hs hs'
  rcvOne _ _ _ _ _ _ _ _ h hi hj hs hs' := krow_rcvOne h hi hj hs hs'
  rcvEof _ _ _ _ _ _ _ h hi hj hs := krow_rcvEof h hi hj hs
  eof _ _ _ _ h hi hs hsh := krow_eof h hi hs hsh
  cls _ _ _ _ h hi hs := krow_cls h hi hs
  fork _ _ _ _ _ _ h hi hs := krow_fork h hi hs
  live _ h := krow_live h
  last _ h h0 := krow_last h h0

end
end Go.Proofs.Ytplndihadjfliaa.Net
/-
  A NET OF GOROUTINES: what a walk needs of a goroutine's own steps: its birth, a deferred close, its leaving; at a send, a receive, a go statement.
-/
set_option linter.unusedSimpArgs false
set_option linter.unusedVariables false
namespace Go.Proofs.Ytplndihadjfliaa.Net
open Go Go.Conc Go.ConcN

section
variable {P : Program} {main : Bool} {b : Frame} {a : Act} {k : List Item} {cs : List Frame} {w : World}

/-- The bottom frame of a goroutine that a go statement has made, its one call taken off it. -/
def bot (P : Program) : Frame := { (default : Frame) with fn := P.funcs.size, defers := [], mode := .panicking [goexitEntry] }

theorem stepG_born {f : FuncId} {fn : Func} {c : Code} {args cap : Array Value} (hf : P.funcs[f]? = some fn) (hname : (fn.name == "runtime.NumGoroutine") = false) (hb : fn.body = some c) :
    stepG P main (born P { target := .fn (.func f) cap, args := args }) w = .go (G ((baseD f).at { tmps := (args ++ cap) ++ Array.replicate (fn.ntmps - (args ++ cap).size) undef, defers := [] } [.code c]) [bot P]) w #[] := by
  have h1 : ¬ fn.name = "runtime.NumGoroutine" := by simpa using hname
  rw [← enter_atD _ hf hb]
  simp [G, born, stepG, unwind, callDeferred, invoke, callFunc, hf, h1, hb, GStep.after, seen_none, bot]

theorem bot_quits : QuitsIn P 1 (G (bot P) []) := by
  refine .inr ⟨rfl, { G (bot P) [] with status := .finished }, fun w => ?_, rfl⟩
  simp [G, stepG, unwind, bot, goexitEntry, Frame.catches]
  rfl

/-- The deferred close, in the frame's list. -/
def dclose (t ty : TypeId) (cc : Array Bool) (c : Nat) : Deferred := { target := .builtin .close #[t] ty cc, args := #[.chan (some c)] }

theorem stepG_defer_close {ops : Array Oper} {i : Nat} {rest : List Nat} {o : Oper} {x : Operand} {t : TypeId} {c : Nat} (ho : ops[i]? = some o) (hw : Region.wanted o (yielded ops a.tmps) = true) (hk : b.kind ≠ .early)
    (hop : o.op = .defer { callee := .builtin .close, args := #[x], argTypes := #[t] }) (hx : a.eval x = .chan (some c)) :
    ∃ cc, stepG P main (G (b.at a (.inRegion ops (i :: rest) :: k)) cs) w = .go (G (b.at (Act.put ⟨a.tmps, dclose t o.type cc c :: a.defers⟩ o.dst undef) (.inRegion ops rest :: k)) cs) w #[] := by
  refine ⟨#[match x with | .const _ => true | _ => false], ?_⟩
  have hr : (execOp a.eval o).run P w = .ok (.defer (dclose t o.type #[match x with | .const _ => true | _ => false] c)) w := by
    unfold execOp
    simp only [hop, resolve, dclose, Sem.run_bind, Sem.run_pure, Result.andThen_ok, List.map_toArray, List.map_cons, List.map_nil, hx]
    cases x <;> rfl
  have he : (execOp a.eval o).events P w #[] = #[] := by
    unfold execOp
    simp only [hop, resolve, Sem.events_bind, Sem.run_pure, Sem.events_pure, Result.evThen_ok]
  have hfin : ∀ d : Deferred, (b.at ⟨a.tmps, d :: a.defers⟩ (.inRegion ops (i :: rest) :: k)).finish undef = b.at (Act.put ⟨a.tmps, d :: a.defers⟩ o.dst undef) (.inRegion ops rest :: k) := fun d => by rw [Frame.finish_at, ho]; rfl
  have hk' : (b.kind == CallKind.early) = false := by simpa using hk
  rw [stepG_oper ho hw, ← hfin]
  simp [stepG.apply, hr, he, G, Frame.at, hk', GStep.after, seen_none]

theorem stepG_unwind_close {todo : List Item} {ds : List Deferred} {t ty : TypeId} {cc : Array Bool} {c s r : Nat} {tm : Bool} (hd : a.defers = dclose t ty cc c :: ds) (hc : w.heap[c]? = some (.chan 0 #[] false s r tm)) (hq : (P.funcs[b.fn]?).any (·.norace) = false) :
    stepG P main (G { b.at a todo with mode := .returning } cs) w = .go (G { b.at ⟨a.tmps, ds⟩ todo with mode := .returning } cs) (w.shut c s r tm) #[⟨.obj c, false, true⟩, ⟨.obj c, true, true⟩] := by
  have hr : (invoke (.builtin .close #[t] ty cc) #[.chan (some c)]).run P w = .ok (.value (.tuple #[])) (w.shut c s r tm) := by
    simp [go_sem, invoke, builtin, run_close_open _ _ hc, World.shut]
  have he : (invoke (.builtin .close #[t] ty cc) #[.chan (some c)]).events P w #[] = #[⟨.obj c, false, true⟩, ⟨.obj c, true, true⟩] := by
    simp [go_sem, invoke, builtin, events_close_open _ _ hc]
  have hl : seen P b.fn #[⟨.obj c, false, true⟩, ⟨.obj c, true, true⟩] = #[⟨.obj c, false, true⟩, ⟨.obj c, true, true⟩] := by
    refine seen_eq hq ?_
    intro e he f
    simp only [List.mem_toArray, List.mem_cons, List.not_mem_nil, or_false] at he
    rcases he with rfl | rfl <;> simp
  simp [G, stepG, unwind, callDeferred, Frame.at, hd, dclose, hr, he, GStep.after] at hl ⊢
  exact hl

/-- AT A DEFERRED CLOSE, the function on its way out, the goroutine's last: behind it it only leaves. -/
theorem atCls_of {z : Nat → Value} {T : List Nat} {todo : List Item} {t ty : TypeId} {cc : Array Bool} {c : Nat} {fn : Func} {f : FuncId} (hf : P.funcs[f]? = some fn) (hr : fn.results = #[]) (hd : a.defers = [dclose t ty cc c]) (hq : fn.norace = false) :
    AtP P z false (RW T) (EvW T) (FollowW P z T []) (G { (baseD f).at a todo with mode := .returning } [bot P]) w (.cls c) := by
  refine ⟨rfl, by simp [mayWake, G, Frame.at], fun s r tm hc => ?_⟩
  refine ⟨_, #[⟨.obj c, false, true⟩], stepG_unwind_close hd hc (by simp [baseD, hf, hq]), .inl rfl, ?_, fun w₂ _ => ⟨2, ?_⟩⟩
  · intro e he
    simp at he
    subst he
    exact ⟨fun m h => (by cases h), .inr ⟨rfl, .inr ⟨c, rfl⟩⟩⟩
  · refine .inr ⟨rfl, G (bot P) [], fun w => ?_, bot_quits⟩
    have := stepG_leave_deferred (P := P) (main := false) (b := baseD f) (a := ⟨a.tmps, []⟩) (todo := todo) (cs := []) (w := w) (c := bot P) (v := .tuple #[]) (fn := fn)
    simp [G, stepG, unwind, doReturn, results, Frame.at, baseD, bot, hf, hr, seen, GStep.after, goexitEntry]

/-- AT A SEND. -/
theorem atSnd_of {z : Nat → Value} {R : World → World → Prop} {Ev : Event → Prop} {Next : Goroutine → World → Prop} {ops : Array Oper} {i : Nat} {rest : List Nat} {o : Oper} {c : Nat} {x y : Operand} {v : Value} (ho : ops[i]? = some o) (hw : Region.wanted o (yielded ops a.tmps) = true) (hk : b.kind ≠ .early) (hop : o.op = .send x y)
    (hx : a.eval x = .chan (some c)) (hy : a.eval y = v) (next : ∀ w₂, R w w₂ → Next (G (b.at (a.put o.dst undef) (.inRegion ops rest :: k)) cs) w₂) :
    AtP P z main R Ev Next (G (b.at a (.inRegion ops (i :: rest) :: k)) cs) w (.snd c v) := by
  refine ⟨rfl, G (b.at a (.inRegion ops (i :: rest) :: k)) cs, .tuple #[], #[], ?_, by simp, fun w₂ h₂ => ?_⟩
  · rw [stepG_comm (cases := #[scase c v (.tuple #[])]) (blocking := true) (shape := .send) (w' := w) ho hw hk (by simp [execOp, hop, hx, hy, scase])]
    have he : (execOp a.eval o).events P w #[] = #[] := by
      unfold execOp
      simp only [hop]
      rfl
    unfold listed
    rw [he]
    simp [seen]
  · rw [served_G, ho]; exact next w₂ h₂

/-- A receive with comma-ok: what the step hands up. -/
theorem stepG_recv {ops : Array Oper} {i : Nat} {rest : List Nat} {o : Oper} {c : Nat} {x : Operand} {t : TypeId} {zv : Value} (ho : ops[i]? = some o) (hw : Region.wanted o (yielded ops a.tmps) = true) (hk : b.kind ≠ .early)
    (hr : (execOp a.eval o).run P w = .ok (.comm #[rcase c zv] true (.recv true)) w) (he : (execOp a.eval o).events P w #[] = #[]) :
    stepG P main (G (b.at a (.inRegion ops (i :: rest) :: k)) cs) w = .comm (core (G (b.at a (.inRegion ops (i :: rest) :: k)) cs)) #[rcase c zv] true (.recv true) w #[] := by
  rw [core_G, stepG_comm (cases := #[rcase c zv]) (blocking := true) (shape := .recv true) (w' := w) ho hw hk hr]
  unfold listed
  rw [he]
  simp [seen]

/-- AT A RECEIVE that is handed a value. -/
theorem atRcv_of {z : Nat → Value} {R : World → World → Prop} {Ev : Event → Prop} {Next : Goroutine → World → Prop} {ops : Array Oper} {i : Nat} {rest : List Nat} {o : Oper} {c : Nat} {v : Value} (ho : ops[i]? = some o) (hw : Region.wanted o (yielded ops a.tmps) = true) (hk : b.kind ≠ .early)
    (hr : (execOp a.eval o).run P w = .ok (.comm #[rcase c (z c)] true (.recv true)) w) (he : (execOp a.eval o).events P w #[] = #[])
    (next : ∀ w₂, R w w₂ → Next (G (b.at (a.put o.dst (.tuple #[v, .bool true])) (.inRegion ops rest :: k)) cs) w₂) :
    AtP P z main R Ev Next (G (b.at a (.inRegion ops (i :: rest) :: k)) cs) w (.rcv c v) := by
  refine ⟨rfl, #[], stepG_recv ho hw hk hr he (t := 0) (x := .tmp 0), by simp, fun w₂ h₂ => ?_⟩
  rw [core_G, served_G, ho]; exact next w₂ h₂
/-- .. that finds the channel closed. -/
theorem atEof_of {z : Nat → Value} {R : World → World → Prop} {Ev : Event → Prop} {Next : Goroutine → World → Prop} {ops : Array Oper} {i : Nat} {rest : List Nat} {o : Oper} {c : Nat} (ho : ops[i]? = some o) (hw : Region.wanted o (yielded ops a.tmps) = true) (hk : b.kind ≠ .early)
    (hr : (execOp a.eval o).run P w = .ok (.comm #[rcase c (z c)] true (.recv true)) w) (he : (execOp a.eval o).events P w #[] = #[])
    (next : ∀ w₂, R w w₂ → Next (G (b.at (a.put o.dst (.tuple #[z c, .bool false])) (.inRegion ops rest :: k)) cs) w₂) :
    AtP P z main R Ev Next (G (b.at a (.inRegion ops (i :: rest) :: k)) cs) w (.eof c) := by
  refine ⟨rfl, #[], stepG_recv ho hw hk hr he (t := 0) (x := .tmp 0), by simp, fun w₂ h₂ => ?_⟩
  rw [core_G, served_G, ho]; exact next w₂ h₂
end

/-- The worker's rely and guarantee. -/
theorem termsW (T : List Nat) : Terms (RW T) (DW T) := ⟨fun _ _ _ => RW.trans, fun w => ⟨rfl, by simp⟩⟩
theorem termsM (T ch : List Nat) : Terms (RC ch) (DM T ch) := ⟨fun _ _ _ => RC.trans, fun w => ⟨fun _ _ => rfl, fun _ _ => rfl, by simp⟩⟩

end Go.Proofs.Ytplndihadjfliaa.Net
