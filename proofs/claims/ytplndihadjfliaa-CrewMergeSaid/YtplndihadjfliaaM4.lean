/-
  A STAR OF GOROUTINES (crew.Merge): its law.
-/
import Derived.Test.YtplndihadjfliaaM3
import Derived.Conc.PipeGen
import Derived.Conc.Quits
import Derived.Conc.DeferLaws
import Derived.Conc.CompanyWords
import Derived.Conc.AtomicLaws2
import Derived.Conc.SmallLaws
set_option linter.unusedSimpArgs false
set_option linter.unusedVariables false
namespace Go.Proofs.Ytplndihadjfliaa.Mix
open Go Go.Conc Go.ConcN
open Go.ConcR (KK wgBlock WgAt stA smA)

section
variable {b s Wg M : Nat} {c : Nat → Nat} {Tb : Nat → List Nat} {l0 : Nat → List Value} {a a' : Abs} {ws : Nat → WS} {ms ms' : MS} {m : Nat} {ts ts' : List (Nat × Option Value)}

/-- Goroutine 0 goes on. -/
theorem Star.main (h : Star b s Wg M c Tb l0 a ws ms m ts) (hwg : a'.wg = a.wg) (hn : a'.n = a.n) (hsc : a'.sc = put a.sc 0 (msc s Wg M c Tb l0 m ts' ms')) (hck : ∀ x, x ∈ a.ck → x ∈ a'.ck) (hsh : ∀ x, x ≠ s → a'.shut x = a.shut x) (hshs : a'.shut s = closed ms') (hcks : mcd ms' = true → s ∈ a'.ck)
    (hdf : ∀ j, j ≠ 0 → a'.df j = a.df j) (hd0 : a'.df 0 = dms ms') (hrel : a'.rel = a.rel) (hkn : ∀ j, j ∈ a.kn 0 → j ∈ a'.kn 0) (hmd : Md M m ws ms' a'.on a'.v a'.wt a'.sm) (hnd : ms' = .nd → ∀ p, p < m → b + p ∈ a'.kn 0) : Star b s Wg M c Tb l0 a' ws ms' m ts' := by
  have hb := h.b0
  refine ⟨h.b0, h.M1, h.inj, h.cs, by rw [hwg]; exact h.wg, by rw [hn]; exact h.nn, h.mM, by rw [hsc, put_same], fun p hp => by rw [hsc, put_ne _ _ (by omega)]; exact h.sw p hp, fun j h0 h1 => ⟨by rw [hsc, put_ne _ _ h0]; exact (h.old j h0 h1).1, hkn j (h.old j h0 h1).2⟩, h.fresh, h.q7, fun p hp => hck _ (h.ckc p hp),
    fun p hp => by rw [hsh _ (h.cs p hp)]; exact h.shc p hp, hcks, hshs, hd0, fun p hp hne => by rw [hdf _ (by omega)]; exact h.dw p hp hne, fun p hp => by rw [hrel]; exact h.rl p hp, by rw [hrel]; exact h.r0, hmd, hnd⟩

/-- Worker p goes on. -/
theorem Star.work (h : Star b s Wg M c Tb l0 a ws ms m ts) {p : Nat} {x : WS} (hp : p < m) (hwg : a'.wg = a.wg) (hn : a'.n = a.n) (hsc : a'.sc = put a.sc (b + p) ((wscr s Wg (c p) x).map .pr)) (hck : a'.ck = a.ck) (hsh : ∀ y, y ≠ c p → a'.shut y = a.shut y) (hshp : a'.shut (c p) = isPast x)
    (hdf : ∀ j, j ≠ b + p → a'.df j = a.df j) (hdfp : x ≠ .past 7 → a'.df (b + p) = dws x) (hrel : ∀ j, j ≠ b + p → a'.rel j = a.rel j) (hrelp : a'.rel (b + p) = rws x) (hkn : a'.kn 0 = a.kn 0) (hq : ∀ q, x = .past q → 1 ≤ q ∧ q ≤ 7)
    (hmd : Md M m (put ws p x) ms a'.on a'.v a'.wt a'.sm) : Star b s Wg M c Tb l0 a' (put ws p x) ms m ts := by
  have hb := h.b0
  have hmM := h.mM
  refine ⟨h.b0, h.M1, h.inj, h.cs, by rw [hwg]; exact h.wg, by rw [hn]; exact h.nn, h.mM, by rw [hsc, put_ne _ _ (by omega)]; exact h.s0, fun k hk => ?_, fun j h0 h1 => ⟨by rw [hsc, put_ne _ _ (by omega)]; exact (h.old j h0 h1).1, by rw [hkn]; exact (h.old j h0 h1).2⟩, fun k h1 h2 => by rw [put_ne _ _ (by omega)]; exact h.fresh k h1 h2,
    fun k q hk hkq => ?_, fun k hk => by rw [hck]; exact h.ckc k hk, fun k hk => ?_, fun e => by rw [hck]; exact h.cks e, by rw [hsh s (fun e => h.cs p (by omega) e.symm)]; exact h.shs, by rw [hdf 0 (by omega)]; exact h.d0, fun k hk hne => ?_, fun k hk => ?_, by rw [hrel 0 (by omega)]; exact h.r0, hmd, fun e k hk => by rw [hkn]; exact h.kn e k hk⟩
  · by_cases hkp : k = p
    · subst hkp; rw [hsc, put_same, put_same]
    · rw [hsc, put_ne _ _ (by omega), put_ne _ _ hkp]; exact h.sw k hk
  · by_cases hkp : k = p
    · subst hkp; rw [put_same] at hkq; exact hq q hkq
    · rw [put_ne _ _ hkp] at hkq; exact h.q7 k q hk hkq
  · by_cases hkp : k = p
    · subst hkp; rw [put_same]; exact hshp
    · rw [put_ne _ _ hkp, hsh _ (fun e => hkp (h.inj k p hk (by omega) e))]; exact h.shc k hk
  · by_cases hkp : k = p
    · subst hkp; rw [put_same] at hne ⊢; exact hdfp hne
    · rw [put_ne _ _ hkp] at hne ⊢; rw [hdf _ (by omega)]; exact h.dw k hk hne
  · by_cases hkp : k = p
    · subst hkp; rw [put_same]; exact hrelp
    · rw [put_ne _ _ hkp, hrel _ (by omega)]; exact h.rl k hk

theorem VS_put {p : Nat} (hp : p < m) (x : WS) : VS m (put ws p x) + cnt (ws p) = VS m ws + cnt x := sumTo_upd ws x cnt hp
theorem VS_le : VS m ws ≤ m := by
  have := sumTo_le (f := fun p => cnt (ws p)) (c := 1) (j := m) fun i _ => by
    cases ws i with
    | live _ => exact Nat.le_refl _
    | past q => simp only [cnt]; split <;> omega
  unfold VS; omega

theorem easy_put {p : Nat} {x : WS} (hx : easy x) (h : ∀ k, k < m → easy (ws k)) : ∀ k, k < m → easy (put ws p x k) := by
  intro k hk
  by_cases hkp : k = p
  · subst hkp; rw [put_same]; exact hx
  · rw [put_ne _ _ hkp]; exact h k hk

/-- A worker's move that the group does not see. -/
theorem Md.keep {on : Bool} {v wt sm : Nat} (h : Md M m ws ms on v wt sm) {p : Nat} {x : WS} (hp : p < m) (hx : easy x) (hc : cnt x = cnt (ws p)) (he : easy (ws p)) (h7 : ws p ≠ .past 7) : Md M m (put ws p x) ms on v wt sm := by
  have hV : VS m (put ws p x) = VS m ws := by have := VS_put (ws := ws) hp x; omega
  cases ms with
  | mg => exact h
  | mc => exact h
  | fk sub => obtain ⟨h1, h2, h3⟩ := h; exact ⟨h1, easy_put hx h2, by rw [hV]; exact h3⟩
  | ca => obtain ⟨h1, h2, h3⟩ := h; exact ⟨h1, easy_put hx h2, by rw [hV]; exact h3⟩
  | wl k => obtain ⟨h1, h2, h3⟩ := h; exact ⟨h1, easy_put hx h2, by rw [hV]; exact h3⟩
  | cs vs k => obtain ⟨h1, h2, h3⟩ := h; exact ⟨h1, easy_put hx h2, by rw [hV]; exact h3⟩
  | ac =>
    obtain ⟨h1, h2⟩ := h
    refine ⟨h1, ?_⟩
    rcases h2 with ⟨h2, h3⟩ | ⟨L, q, hL, hq, q1, q2, hoth, _⟩ | ⟨hall, _⟩
    · exact .inl ⟨easy_put hx h2, by rw [hV]; exact h3⟩
    · by_cases hpL : p = L
      · subst hpL; rw [hq] at he; rcases he with he | he <;> omega
      · exact absurd (hoth p hp hpL) h7
    · exact absurd (hall p hp) h7
  | w4 => exact absurd (h.2.1 p hp) h7
  | en => exact absurd (h.2.1 p hp) h7
  | aq => exact absurd (h.2.1 p hp) h7
  | nd => exact absurd (h.2.1 p hp) h7

theorem ok_rem {p : Nat} {x : WS} (hr : rem x = rem (ws p)) (h : okT M (fun k => rem (ws k)) ts) : okT M (fun k => rem (put ws p x k)) ts := by
  have : (fun k => rem (put ws p x k)) = fun k => rem (ws k) := by
    funext k
    by_cases hkp : k = p
    · subst hkp; rw [put_same]; exact hr
    · rw [put_ne _ _ hkp]
  rw [this]; exact h
theorem ok_put {p : Nat} {l : List Value} (h : okT M (put (fun k => rem (ws k)) p l) ts) : okT M (fun k => rem (put ws p (.live l) k)) ts := by
  have : (fun k => rem (put ws p (.live l) k)) = put (fun k => rem (ws k)) p l := by
    funext k
    by_cases hkp : k = p
    · subst hkp; rw [put_same, put_same]; rfl
    · rw [put_ne _ _ hkp, put_ne _ _ hkp]
  rw [this]; exact h

/-- A worker that is there: goroutine 0 has made the group. -/
theorem Star.on (h : Star b s Wg M c Tb l0 a ws ms m ts) {p : Nat} (hp : p < m) : mcd ms = true ∧ a.on = true := by
  have hmd := h.md
  cases ms with
  | mg => obtain ⟨_, h0⟩ := hmd; omega
  | mc => obtain ⟨_, h0, _⟩ := hmd; omega
  | _ => exact ⟨rfl, hmd.1⟩

variable (b s Wg M c Tb l0) in
def KStar (a : Abs) : Prop := ∃ ws ms m ts, Star b s Wg M c Tb l0 a ws ms m ts ∧ (closed ms = false → okT M (fun p => rem (ws p)) ts)

theorem Star.give (h : Star b s Wg M c Tb l0 a ws ms m ts) {j c' : Nat} {q : Pr} {u : Value} {bs : List Do} (hj : j < a.n) (hs : a.sc j = .pr q :: bs) (hg : Gives c' u q) :
    ∃ p l, p < m ∧ j = b + p ∧ ws p = .live (u :: l) ∧ c' = c p ∧ bs = (wscr s Wg (c p) (.live l)).map .pr := by
  have hd := h.head hj hs
  rcases hg with rfl | ⟨s', k, rfl⟩
  · cases hd
  · cases hd with
    | sel hp hw => exact ⟨_, _, hp, rfl, hw, rfl, rfl⟩
theorem Star.takes (h : Star b s Wg M c Tb l0 a ws ms m ts) {j c' : Nat} {v : Value} {bs : List Do} (hj : j < a.n) (hs : a.sc j = .pr (.rcv c' v) :: bs) :
    ∃ p r, j = 0 ∧ ms = .fk 0 ∧ m = M ∧ ts = (p, some v) :: r ∧ c' = c p ∧ bs = msc s Wg M c Tb l0 m r (.fk 0) := by
  have hd := h.head hj hs
  cases hd with
  | rcv h1 h2 h3 => exact ⟨_, _, rfl, h1, h2, h3, rfl, rfl⟩
theorem Star.ends (h : Star b s Wg M c Tb l0 a ws ms m ts) {j c' : Nat} {bs : List Do} (hj : j < a.n) (hs : a.sc j = .pr (.eof c') :: bs) :
    ∃ p r, j = 0 ∧ ms = .fk 0 ∧ m = M ∧ ts = (p, none) :: r ∧ c' = c p ∧ bs = msc s Wg M c Tb l0 m r (.fk 0) := by
  have hd := h.head hj hs
  cases hd with
  | eof h1 h2 h3 => exact ⟨_, _, rfl, h1, h2, h3, rfl, rfl⟩
theorem Star.nil (h : Star b s Wg M c Tb l0 a ws ms m ts) {p : Nat} (hp : p < m) (hs : a.sc (b + p) = []) : ws p = .past 7 := by
  rw [h.sw p hp] at hs
  cases hw : ws p with
  | live l => rw [hw] at hs; simp [wscr, kidS, tailW] at hs
  | past q =>
    rw [hw] at hs
    obtain ⟨h1, h2⟩ := h.q7 p q hp hw
    have h3 : ((tailW Wg (c p)).drop q).length = 0 := by
      have := congrArg List.length hs
      simpa [wscr] using this
    rw [List.length_drop] at h3
    simp only [tailW, List.length_cons, List.length_nil] at h3
    have : q = 7 := by omega
    rw [this]

/-- Where nobody is counted all have gone. -/
theorem all_past (he : ∀ p, p < m → easy (ws p)) (hV : VS m ws = 0) : ∀ p, p < m → ws p = .past 7 := by
  intro p hp
  have h1 : cnt (ws p) ≤ VS m ws := le_sumTo (f := fun p => cnt (ws p)) hp
  have h2 := he p hp
  cases hw : ws p with
  | live l => rw [hw] at h1; simp only [cnt] at h1; omega
  | past q =>
    rw [hw] at h1 h2
    simp only [cnt] at h1
    rcases h2 with h2 | h2
    · rw [if_pos h2] at h1; omega
    · rw [h2]
/-- The last one on its way. -/
theorem Md.last {on : Bool} {v wt sm : Nat} (h : Md M m ws ms on v wt sm) {p q : Nat} (hp : p < m) (hw : ws p = .past q) (h4 : 4 ≤ q) (h6 : q ≤ 6) :
    ms = .ac ∧ on = true ∧ (∀ k, k < m → k ≠ p → ws k = .past 7) ∧ v = 0 ∧ wt = (if q = 6 then 0 else 1) ∧ sm = 0 := by
  have hne : ¬ easy (ws p) := by rw [hw]; rintro (h | h) <;> omega
  have h7 : ws p ≠ .past 7 := by rw [hw]; intro e; cases e; omega
  cases ms with
  | mg => obtain ⟨_, h0⟩ := h; omega
  | mc => obtain ⟨_, h0, _⟩ := h; omega
  | fk sub => exact absurd (h.2.1 p hp) hne
  | ca => exact absurd (h.2.1 p hp) hne
  | wl k => exact absurd (h.2.1 p hp) hne
  | cs vs k => exact absurd (h.2.1 p hp) hne
  | ac =>
    obtain ⟨h1, h2⟩ := h
    rcases h2 with ⟨h2, _⟩ | ⟨L, q', hL, hq, q1, q2, hoth, h3, h4', h5⟩ | ⟨hall, _⟩
    · exact absurd (h2 p hp) hne
    · by_cases hpL : p = L
      · subst hpL
        rw [hw] at hq; cases hq
        exact ⟨rfl, h1, hoth, h3, h4', h5⟩
      · exact absurd (hoth p hp hpL) h7
    · exact absurd (hall p hp) h7
  | w4 => exact absurd (h.2.1 p hp) h7
  | en => exact absurd (h.2.1 p hp) h7
  | aq => exact absurd (h.2.1 p hp) h7
  | nd => exact absurd (h.2.1 p hp) h7

theorem put_past {p : Nat} (hoth : ∀ k, k < m → k ≠ p → ws k = .past 7) : ∀ k, k < m → put ws p (.past 7) k = .past 7 := by
  intro k hk
  by_cases hkp : k = p
  · subst hkp; rw [put_same]
  · rw [put_ne _ _ hkp]; exact hoth k hk hkp
theorem put_oth {p : Nat} {x : WS} (hoth : ∀ k, k < m → k ≠ p → ws k = .past 7) : ∀ k, k < m → k ≠ p → put ws p x k = .past 7 := by
  intro k hk hkp
  rw [put_ne _ _ hkp]; exact hoth k hk hkp

/-- A worker is done, and is not the last. -/
theorem Md.dec {on : Bool} {v wt sm : Nat} (h : Md M m ws ms on v wt sm) {p : Nat} (hp : p < m) (hw : ws p = .past 3) : on = true ∧ sm = 0 ∧ wt ≤ 1 ∧ 1 ≤ v ∧ v ≤ m + 1 ∧
    ((v = 1 ∧ wt = 1) → Md M m (put ws p (.past 4)) ms on 0 1 0) ∧ (¬ (v = 1 ∧ wt = 1) → Md M m (put ws p (.past 7)) ms on (v - 1) wt 0) := by
  have hV := VS_put (ws := ws) hp (.past 7)
  rw [hw] at hV
  have hV : VS m (put ws p (.past 7)) + 1 = VS m ws := by simpa [cnt] using hV
  have hle : VS m ws ≤ m := VS_le
  have e7 : easy (.past 7) := .inr rfl
  have h7 : ws p ≠ .past 7 := by rw [hw]; simp
  have hne : ∀ q, 4 ≤ q → ws p ≠ .past q := fun q hq e => by rw [hw] at e; cases e; omega
  cases ms with
  | mg => obtain ⟨_, h0⟩ := h; omega
  | mc => obtain ⟨_, h0, _⟩ := h; omega
  | fk sub =>
    obtain ⟨h1, h2, h3, h4, h5, h6⟩ := h
    have hs : (if 2 ≤ sub then 1 else 0) ≤ 1 := by split <;> omega
    exact ⟨h1, h5, by omega, by omega, by omega, fun hh => by omega, fun _ => ⟨h1, easy_put e7 h2, by omega, h4, rfl, h6⟩⟩
  | ca =>
    obtain ⟨h1, h2, h3, h4, h5⟩ := h
    exact ⟨h1, h5, by omega, by omega, by omega, fun hh => by omega, fun _ => ⟨h1, easy_put e7 h2, by omega, h4, rfl⟩⟩
  | wl k =>
    obtain ⟨h1, h2, h3, h4, h5, h6⟩ := h
    exact ⟨h1, h5, by omega, by omega, by omega, fun hh => by omega, fun _ => ⟨h1, easy_put e7 h2, by omega, h4, rfl, by omega⟩⟩
  | cs vs k =>
    obtain ⟨h1, h2, h3, h4, h5, h6, h8, h9⟩ := h
    exact ⟨h1, h5, by omega, by omega, by omega, fun hh => by omega, fun _ => ⟨h1, easy_put e7 h2, by omega, h4, rfl, by omega, h8, h9⟩⟩
  | ac =>
    obtain ⟨h1, h2⟩ := h
    rcases h2 with ⟨h2, h3, h4, h5, h6⟩ | ⟨L, q', hL, hq, q1, q2, hoth, _⟩ | ⟨hall, _⟩
    · refine ⟨h1, h6, by omega, by omega, by omega, fun hh => ⟨h1, .inr (.inl ⟨p, 4, hp, put_same _ _ _, by omega, by omega, put_oth fun k hk hkp => ?_, rfl, rfl, rfl⟩)⟩, fun hh => ⟨h1, .inl ⟨easy_put e7 h2, by omega, by omega, h5, rfl⟩⟩⟩
      have := all_past (ws := put ws p (.past 7)) (easy_put e7 h2) (by omega) k hk
      rw [put_ne _ _ hkp] at this; exact this
    · by_cases hpL : p = L
      · subst hpL; exact absurd hq (hne q' q1)
      · exact absurd (hoth p hp hpL) h7
    · exact absurd (hall p hp) h7
  | w4 => exact absurd (h.2.1 p hp) h7
  | en => exact absurd (h.2.1 p hp) h7
  | aq => exact absurd (h.2.1 p hp) h7
  | nd => exact absurd (h.2.1 p hp) h7

/-- Worker p goes on; the group's state may turn. -/
theorem Star.workG (h : Star b s Wg M c Tb l0 a ws ms m ts) {p : Nat} {x : WS} {al : List Do} {v wt sm : Nat} (hp : p < m) (hal : al = (wscr s Wg (c p) x).map .pr) (hx : isPast x = isPast (ws p)) (h7 : ws p ≠ .past 7) (hd : x ≠ .past 7 → dws x = dws (ws p)) (hr : rws x = rws (ws p)) (hq : ∀ q, x = .past q → 1 ≤ q ∧ q ≤ 7)
    (hmd : Md M m (put ws p x) ms a.on v wt sm) : Star b s Wg M c Tb l0 (a.grp (b + p) al v wt sm) (put ws p x) ms m ts := by
  have hmM := h.mM
  refine h.work hp rfl rfl (by rw [hal]; rfl) rfl (fun _ _ => rfl) ?_ (fun _ _ => rfl) (fun hne => ?_) (fun _ _ => rfl) ?_ rfl hq hmd
  · show a.shut (c p) = _; rw [hx]; exact h.shc p (by omega)
  · show a.df (b + p) = _; rw [hd hne]; exact h.dw p hp h7
  · show a.rel (b + p) = _; rw [hr]; exact h.rl p hp
/-- Goroutine 0 goes on; the group's state may turn. -/
theorem Star.mainG (h : Star b s Wg M c Tb l0 a ws ms m ts) {al : List Do} {v wt sm : Nat} (hal : al = msc s Wg M c Tb l0 m ts' ms') (hcl : closed ms' = closed ms) (hmc : mcd ms' = mcd ms) (hd : dms ms' = dms ms) (hmd : Md M m ws ms' a.on v wt sm) (hnd : ms' ≠ .nd) : Star b s Wg M c Tb l0 (a.grp 0 al v wt sm) ws ms' m ts' :=
  h.main rfl rfl (by rw [hal]; rfl) (fun _ h => h) (fun _ _ => rfl) (by show a.shut s = _; rw [hcl]; exact h.shs) (fun e => h.cks (hmc ▸ e)) (fun _ _ => rfl) (by show a.df 0 = _; rw [hd]; exact h.d0) rfl (fun _ h => h) hmd (fun e => absurd e hnd)

theorem grp_self (a : Abs) (i : Nat) (al : List Do) : a.grp i al a.v a.wt a.sm = a.to i al := rfl

theorem rank_head {a : Abs} {i : Nat} {x : Do} {al : List Do} {a' : Abs} (hi : i < a.n) (hs : a.sc i = x :: al) (hn : a'.n = a.n) (hsc : a'.sc = put a.sc i al) : rankS a' < rankS a := rank_put hn hi hsc (by rw [hs]; exact wtRs_tail _ _)
theorem rank_drop {a : Abs} {i k : Nat} {x : Do} {al : List Do} {a' : Abs} (hi : i < a.n) (hs : a.sc i = x :: al) (hn : a'.n = a.n) (hsc : a'.sc = put a.sc i (al.drop k)) : rankS a' < rankS a := rank_put hn hi hsc (by rw [hs]; have := wtRs_tail x al; have := wtRs_drop k al; omega)

theorem Star.say0 (h : Star b s Wg M c Tb l0 a ws ms m ts) {mk : Mark} (hmk : mk = .disable ∨ mk = .enable) {al : List Do} (hal : al = msc s Wg M c Tb l0 m ts ms') (hcl : closed ms' = closed ms) (hmc : mcd ms' = mcd ms) (hd : dms ms' = saidDf mk (dms ms)) (hmd : Md M m ws ms' a.on a.v a.wt a.sm) (hnd : ms' ≠ .nd) :
    Star b s Wg M c Tb l0 (a.say 0 mk al) ws ms' m ts := by
  have e1 : (a.say 0 mk al).rel = a.rel := by rcases hmk with rfl | rfl <;> simp [Abs.say]
  have e2 : (a.say 0 mk al).kn = a.kn := by rcases hmk with rfl | rfl <;> simp [Abs.say]
  exact h.main rfl rfl (by rw [hal]; rfl) (fun _ h => h) (fun _ _ => rfl) (by show a.shut s = _; rw [hcl]; exact h.shs) (fun e => h.cks (hmc ▸ e)) (fun j hj => put_ne _ _ hj) (by show put a.df 0 (saidDf mk (a.df 0)) 0 = _; rw [put_same, h.d0, hd]) e1 (fun j hj => by rw [e2]; exact hj) hmd (fun e => absurd e hnd)

theorem Star.atEnd (h : Star b s Wg M c Tb l0 a ws ms m ts) (hs : a.sc 0 = []) : ms = .nd := by
  rw [h.s0] at hs
  cases ms with
  | nd => rfl
  | fk sub => simp [msc, cloS, trn] at hs
  | _ => simp [msc, endX] at hs

theorem kstar_law : Law (KStar b s Wg M c Tb l0) rankS where
  pos a h := by obtain ⟨ws, ms, m, ts, h, hok⟩ := h; have := h.b0; rw [h.nn]; omega
  pass a i j p c' v v' al bs h hi hj hsi hg hsj := by
    obtain ⟨ws, ms, m, ts, h, hok⟩ := h
    have hb := h.b0
    obtain ⟨p', r, rfl, hms, hmM, hts, hc', hbs⟩ := h.takes hj hsj
    obtain ⟨q, l, hp, rfl, hw, hc2, hal⟩ := h.give hi hsi hg
    have hok := hok (by rw [hms]; rfl)
    rw [hts] at hok
    obtain ⟨hpM, l', hl', hok⟩ := hok
    have hqp : p' = q := h.inj p' q hpM (by omega) (by rw [← hc', hc2])
    subst hqp
    simp only [hw, rem, List.cons.injEq] at hl'
    obtain ⟨rfl, rfl⟩ := hl'
    have hw1 := h.workG (al := al) (x := .live l) hp hal (by rw [hw]; rfl) (by rw [hw]; simp) (fun _ => by rw [hw]; rfl) (by rw [hw]; rfl) (fun q hq => by cases hq) (h.md.keep hp trivial (by rw [hw]; rfl) (by rw [hw]; trivial) (by rw [hw]; simp))
    have hw2 := hw1.mainG (al := bs) (ms' := .fk 0) (ts' := r) (v := a.v) (wt := a.wt) (sm := a.sm) hbs (by rw [hms]) (by rw [hms]) (by rw [hms]) (by have := hw1.md; rw [hms] at this; exact this) (by simp)
    exact ⟨by omega, rfl, ⟨put ws p' (.live l), .fk 0, m, r, hw2, fun _ => ok_put hok⟩, rank_put2 rfl hi hj (by omega) rfl (by rw [hsi]; exact wtRs_tail _ _) (by rw [hsj]; exact wtRs_tail _ _)⟩
  noEof a i j p c' v al bs h hi hj hsi hg hsj := by
    obtain ⟨ws, ms, m, ts, h, hok⟩ := h
    obtain ⟨p', r, rfl, hms, hmM, hts, hc', hbs⟩ := h.ends hj hsj
    obtain ⟨q, l, hp, rfl, hw, hc2, hal⟩ := h.give hi hsi hg
    have hok := hok (by rw [hms]; rfl)
    rw [hts] at hok
    obtain ⟨hpM, he, _⟩ := hok
    have hqp : p' = q := h.inj p' q hpM (by omega) (by rw [← hc', hc2])
    subst hqp
    simp [hw, rem] at he
  giveOpen a i p c' v al h hi hsi hg := by
    obtain ⟨ws, ms, m, ts, h, hok⟩ := h
    obtain ⟨q, l, hp, rfl, hw, rfl, hal⟩ := h.give hi hsi hg
    have := h.mM
    exact ⟨h.ckc q hp, by rw [h.shc q (by omega), hw]; rfl⟩
  rcvOpen a i c' v al h hi hsi := by
    obtain ⟨ws, ms, m, ts, h, hok⟩ := h
    obtain ⟨p', r, rfl, hms, hmM, hts, rfl, hbs⟩ := h.takes hi hsi
    have hok := hok (by rw [hms]; rfl)
    rw [hts] at hok
    obtain ⟨hpM, l', hl', hok⟩ := hok
    refine ⟨h.ckc p' (by omega), ?_⟩
    rw [h.shc p' hpM]
    cases hw : ws p' with
    | live l => rfl
    | past q => simp [hw, rem] at hl'
  eofIn a i c' al h hi hsi := by
    obtain ⟨ws, ms, m, ts, h, hok⟩ := h
    obtain ⟨p', r, rfl, hms, hmM, hts, rfl, hbs⟩ := h.ends hi hsi
    have hok := hok (by rw [hms]; rfl)
    rw [hts] at hok
    exact h.ckc p' (by have := hok.1; omega)
  giveOne a i j p p' c' v v' al bs h hi hj hsi hg hsj hg' := by
    obtain ⟨ws, ms, m, ts, h, hok⟩ := h
    have := h.mM
    obtain ⟨q, l, hp, rfl, hw, rfl, hal⟩ := h.give hi hsi hg
    obtain ⟨q', l', hp', rfl, hw', hc', hal'⟩ := h.give hj hsj hg'
    rw [h.inj q q' (by omega) (by omega) hc']
  rcvOne a i j c' v v' al bs h hi hj hsi hsj := by
    obtain ⟨ws, ms, m, ts, h, hok⟩ := h
    obtain ⟨_, _, rfl, _⟩ := h.takes hi hsi
    obtain ⟨_, _, rfl, _⟩ := h.takes hj hsj
    rfl
  rcvEof a i j c' v al bs h hi hj hsi hsj := by
    obtain ⟨ws, ms, m, ts, h, hok⟩ := h
    obtain ⟨_, _, _, _, _, h1, _⟩ := h.takes hi hsi
    obtain ⟨_, _, _, _, _, h2, _⟩ := h.ends hj hsj
    rw [h1] at h2; cases h2
  sel a i c' v s' k al h hi hsi := by
    obtain ⟨ws, ms, m, ts, h, hok⟩ := h
    have hmM := h.mM
    have hd := h.head hi hsi
    cases hd with
    | sel hp hw =>
      rename_i p l
      refine ⟨h.cks (h.on hp).1, fun j q bs u hj hs hg => ?_, fun hsh => ⟨fun j v' bs hj hs => ?_, ⟨put ws p (.live []), ms, m, ts, ?_, fun e => ?_⟩, rank_drop hi hsi rfl rfl⟩⟩
      · obtain ⟨q', l', hp', _, _, hc', _⟩ := h.give hj hs hg
        exact h.cs q' (by omega) hc'.symm
      · obtain ⟨_, _, _, hms, _⟩ := h.takes hj hs
        rw [h.shs, hms] at hsh; cases hsh
      · rw [← grp_self]
        refine h.workG (x := .live []) hp ?_ (by rw [hw]; rfl) (by rw [hw]; simp) (fun _ => by rw [hw]; rfl) (by rw [hw]; rfl) (fun q hq => by cases hq) (h.md.keep hp trivial (by rw [hw]; rfl) (by rw [hw]; trivial) (by rw [hw]; simp))
        rw [← List.map_drop]
        simp only [wscr]
        rw [kidS_drop]; rfl
      · rw [h.shs] at hsh; rw [hsh] at e; cases e
  eof a i c' al h hi hsi hsh := by
    obtain ⟨ws, ms, m, ts, h, hok⟩ := h
    obtain ⟨p', r, rfl, hms, hmM, hts, rfl, hbs⟩ := h.ends hi hsi
    have hok := hok (by rw [hms]; rfl)
    rw [hts] at hok
    obtain ⟨hpM, he, hok⟩ := hok
    have hd0 : a.df 0 = 0 := by rw [h.d0, hms]; rfl
    refine ⟨hd0, ⟨ws, .fk 0, m, r, ?_, fun _ => hok⟩, rank_head hi hsi rfl rfl⟩
    exact h.main rfl rfl (by rw [hbs]; rfl) (fun _ h => h) (fun _ _ => rfl) (by show a.shut s = _; rw [h.shs, hms]) (fun _ => h.cks (by rw [hms]; rfl)) (fun _ _ => rfl) (by show a.df 0 = _; rw [hd0]; rfl) rfl (fun j hj => by
      show j ∈ put a.kn 0 (a.kc (c p') ++ a.kn 0) 0
      rw [put_same]; exact List.mem_append_right _ hj) (by have := h.md; rw [hms] at this; exact this) (fun e => by cases e)
  cls a i c' al h hi hsi := by
    obtain ⟨ws, ms, m, ts, h, hok⟩ := h
    have hmM := h.mM
    have hd := h.head hi hsi
    cases hd with
    | cls hms hmM' hts =>
      have hd0 : a.df 0 = 0 := by rw [h.d0, hms]; rfl
      refine ⟨h.cks (by rw [hms]; rfl), by rw [h.shs, hms]; rfl, hd0, fun j v bs hj hs => ?_, fun j q bs v hj hs hg => ?_, ⟨ws, .ca, m, ts, ?_, fun e => by cases e⟩, rank_head hi hsi rfl rfl⟩
      · obtain ⟨_, _, rfl, _⟩ := h.takes hj hs
        rw [hsi] at hs; cases hs
      · obtain ⟨q', l', hp', _, _, hc', _⟩ := h.give hj hs hg
        exact h.cs q' (by omega) hc'.symm
      · have hmd := h.md
        rw [hms] at hmd
        obtain ⟨h1, h2, h3, h4, h5, _⟩ := hmd
        exact h.main rfl rfl rfl (fun _ h => h) (fun x hx => put_ne _ _ hx) (put_same _ _ _) (fun _ => h.cks (by rw [hms]; rfl)) (fun _ _ => rfl) (by show a.df 0 = _; rw [hd0]; rfl) rfl (fun j hj => hj) ⟨h1, h2, h3, h4, h5⟩ (fun e => by cases e)
    | wcl hp hw =>
      rename_i p
      refine ⟨h.ckc p hp, by rw [h.shc p (by omega), hw]; rfl, by rw [h.dw p hp (by rw [hw]; simp), hw]; rfl, fun j v bs hj hs => ?_, fun j q bs v hj hs hg => ?_, ⟨put ws p (.past 1), ms, m, ts, ?_, fun e => ok_rem (by rw [hw]; rfl) (hok e)⟩, rank_head hi hsi rfl rfl⟩
      · obtain ⟨p', r, rfl, hms, hmM, hts, hc', hbs⟩ := h.takes hj hs
        have hok := hok (by rw [hms]; rfl)
        rw [hts] at hok
        obtain ⟨hpM, l', hl', _⟩ := hok
        have := h.inj p p' (by omega) hpM hc'
        subst this
        simp [hw, rem] at hl'
      · obtain ⟨q', l', hp', _, hw', hc', _⟩ := h.give hj hs hg
        have := h.inj p q' (by omega) (by omega) hc'
        subst this
        rw [hw] at hw'; cases hw'
      · exact h.work hp rfl rfl rfl rfl (fun y hy => put_ne _ _ hy) (put_same _ _ _) (fun _ _ => rfl) (fun _ => by show a.df (b + p) = _; rw [h.dw p hp (by rw [hw]; simp), hw]; rfl) (fun _ _ => rfl) (by show a.rel (b + p) = _; rw [h.rl p hp, hw]; rfl) rfl (fun q hq => by cases hq; omega)
          (h.md.keep hp (.inl (by omega)) (by rw [hw]; rfl) (by rw [hw]; trivial) (by rw [hw]; simp))
  fork a i T cs kid al h hi hsi := by
    obtain ⟨ws, ms, m, ts, h, hok⟩ := h
    have hb := h.b0
    have hd := h.head hi hsi
    cases hd with
    | f3 hms hm =>
      have hd0 : a.df 0 = 0 := by rw [h.d0, hms]; rfl
      have hwm := h.fresh m (Nat.le_refl _) hm
      have hnn := h.nn
      refine ⟨rfl, by simp [kidS, tailW], fun c' hc' => ?_, hd0, ⟨ws, .fk 0, m + 1, ts, ?_, fun _ => hok (by rw [hms]; rfl)⟩, rank_fork hi hsi⟩
      · have : c' = c m := by simpa using hc'
        rw [this, h.shc m hm, hwm]; rfl
      · have hmd := h.md
        rw [hms] at hmd
        obtain ⟨h1, h2, h3, h4, h5, _⟩ := hmd
        refine ⟨h.b0, h.M1, h.inj, h.cs, h.wg, by show a.n + 1 = _; rw [h.nn]; omega, by omega, ?_, fun p hp => ?_, fun j j0 jb => ?_, fun p h1 h2 => h.fresh p (by omega) h2, fun p q hp hq => ?_, fun p hp => ?_, h.shc, fun _ => ?_, by show a.shut s = _; rw [h.shs, hms]; rfl, ?_, fun p hp hne => ?_, fun p hp => ?_, ?_, ?_, fun e => by cases e⟩
        · show put (put a.sc 0 _) a.n _ 0 = _
          rw [put_ne _ _ (by omega), put_same]
        · show put (put a.sc 0 _) a.n _ (b + p) = _
          by_cases hpm : p = m
          · subst hpm; rw [← hnn, put_same, hwm]; rfl
          · rw [put_ne _ _ (by omega), put_ne _ _ (by omega)]; exact h.sw p (by omega)
        · refine ⟨?_, ?_⟩
          · show put (put a.sc 0 _) a.n _ j = _
            rw [put_ne _ _ (by omega), put_ne _ _ j0]; exact (h.old j j0 jb).1
          · show j ∈ put a.kn a.n [] 0
            rw [put_ne _ _ (by omega)]; exact (h.old j j0 jb).2
        · by_cases hpm : p = m
          · subst hpm; rw [hwm] at hq; cases hq
          · exact h.q7 p q (by omega) hq
        · show c p ∈ [c m] ++ a.ck
          by_cases hpm : p = m
          · subst hpm; simp
          · exact List.mem_append_right _ (h.ckc p (by omega))
        · show s ∈ [c m] ++ a.ck
          exact List.mem_append_right _ (h.cks (by rw [hms]; rfl))
        · show put a.df a.n 0 0 = _
          rw [put_ne _ _ (by omega), hd0]; rfl
        · show put a.df a.n 0 (b + p) = _
          by_cases hpm : p = m
          · subst hpm; rw [← hnn, put_same, hwm]; rfl
          · rw [put_ne _ _ (by omega)]; exact h.dw p (by omega) hne
        · show put a.rel a.n false (b + p) = _
          by_cases hpm : p = m
          · subst hpm; rw [← hnn, put_same, hwm]; rfl
          · rw [put_ne _ _ (by omega)]; exact h.rl p (by omega)
        · show put a.rel a.n false 0 = _
          rw [put_ne _ _ (by omega)]; exact h.r0
        · refine ⟨h1, fun p hp => ?_, ?_, h4, h5, .inl rfl⟩
          · by_cases hpm : p = m
            · subst hpm; rw [hwm]; trivial
            · exact h2 p (by omega)
          · have e : VS (m + 1) ws = VS m ws + cnt (ws m) := rfl
            rw [e, hwm]
            show a.v = VS m ws + 1 + 0
            have : a.v = VS m ws + 1 := h3
            omega
  mkg a i al h hi hsi := by
    obtain ⟨ws, ms, m, ts, h, hok⟩ := h
    have hd := h.head hi hsi
    cases hd with
    | mg hms =>
      have hmd := h.md
      rw [hms] at hmd
      obtain ⟨h1, h2⟩ := hmd
      refine ⟨rfl, h1, ⟨ws, .mc, m, ts, ?_, fun _ => hok (by rw [hms]; rfl)⟩, rank_head hi hsi rfl rfl⟩
      exact h.main rfl rfl rfl (fun _ h => h) (fun _ _ => rfl) (by show a.shut s = _; rw [h.shs, hms]; rfl) (fun e => by cases e) (fun _ _ => rfl) (by show a.df 0 = _; rw [h.d0, hms]; rfl) rfl (fun j hj => hj) ⟨rfl, h2, rfl, rfl, rfl⟩ (fun e => by cases e)
  mkc a i c' al h hi hsi := by
    obtain ⟨ws, ms, m, ts, h, hok⟩ := h
    have hd := h.head hi hsi
    cases hd with
    | mc hms =>
      have hmd := h.md
      rw [hms] at hmd
      obtain ⟨h1, h2, h3, h4, h5⟩ := hmd
      refine ⟨rfl, by rw [h.shs, hms]; rfl, ⟨ws, .fk 0, m, ts, ?_, fun _ => hok (by rw [hms]; rfl)⟩, rank_head hi hsi rfl rfl⟩
      refine h.main rfl rfl rfl (fun x hx => List.mem_cons_of_mem _ hx) (fun _ _ => rfl) (by show a.shut s = _; rw [h.shs, hms]; rfl) (fun e => List.mem_cons_self) (fun _ _ => rfl) (by show a.df 0 = _; rw [h.d0, hms]; rfl) rfl (fun j hj => hj) ⟨h1, fun p hp => by omega, ?_, h4, h5, .inl rfl⟩ (fun e => by cases e)
      show a.v = VS m ws + 0
      rw [h2, h3]; rfl
  say a i mk al h hi hsi := by
    obtain ⟨ws, ms, m, ts, h, hok⟩ := h
    have hmM := h.mM
    have hmd := h.md
    have hd := h.head hi hsi
    have hr : rankS (a.say i mk al) < rankS a := rank_head hi hsi rfl rfl
    cases hd with
    | f0 hms hm =>
      rw [hms] at hmd
      obtain ⟨h1, h2, h3, h4, h5, _⟩ := hmd
      exact ⟨.inl rfl, ⟨ws, .fk 1, m, ts, h.say0 (.inl rfl) rfl (by rw [hms]; rfl) (by rw [hms]; rfl) (by rw [hms]; rfl) ⟨h1, h2, h3, h4, h5, .inr ⟨by omega, hm⟩⟩ (by simp), fun _ => hok (by rw [hms]; rfl)⟩, hr⟩
    | f2 hms hm =>
      rw [hms] at hmd
      obtain ⟨h1, h2, h3, h4, h5, _⟩ := hmd
      exact ⟨.inr (.inl rfl), ⟨ws, .fk 3, m, ts, h.say0 (.inr rfl) rfl (by rw [hms]; rfl) (by rw [hms]; rfl) (by rw [hms]; rfl) ⟨h1, h2, h3, h4, h5, .inr ⟨by omega, hm⟩⟩ (by simp), fun _ => hok (by rw [hms]; rfl)⟩, hr⟩
    | ca hms =>
      rw [hms] at hmd
      obtain ⟨h1, h2, h3, h4, h5⟩ := hmd
      exact ⟨.inl rfl, ⟨ws, .wl M, m, ts, h.say0 (.inl rfl) rfl (by rw [hms]; rfl) (by rw [hms]; rfl) (by rw [hms]; rfl) ⟨h1, h2, h3, h4, h5, by have := VS_le (m := m) (ws := ws); omega⟩ (by simp), fun e => by cases e⟩, hr⟩
    | en hms =>
      rw [hms] at hmd
      exact ⟨.inr (.inl rfl), ⟨ws, .aq, m, ts, h.say0 (.inr rfl) rfl (by rw [hms]; rfl) (by rw [hms]; rfl) (by rw [hms]; rfl) hmd (by simp), fun e => by cases e⟩, hr⟩
    | aq hms =>
      rw [hms] at hmd
      have hd0 : a.df 0 = 0 := by rw [h.d0, hms]; rfl
      have hwg := h.wg
      subst hwg
      refine ⟨.inr (.inr (.inr ⟨rfl, rfl, hd0⟩)), ⟨ws, .nd, m, ts, ?_, fun e => by cases e⟩, hr⟩
      have e1 : (a.say 0 (.acquire (stA a.wg)) (msc s a.wg M c Tb l0 m ts .nd)).rel = a.rel := by simp [Abs.say]
      have e2 : (a.say 0 (.acquire (stA a.wg)) (msc s a.wg M c Tb l0 m ts .nd)).kn 0 = (List.range a.n).filter (fun j => a.rel j) ++ a.kn 0 := by simp [Abs.say, put]
      refine h.main rfl rfl rfl (fun _ h => h) (fun _ _ => rfl) (by show a.shut s = _; rw [h.shs, hms]; rfl) (fun _ => h.cks (by rw [hms]; rfl)) (fun j hj => put_ne _ _ hj) (by show put a.df 0 (saidDf (.acquire (stA a.wg)) (a.df 0)) 0 = _; rw [put_same, hd0]; rfl) e1 (fun j hj => by rw [e2]; exact List.mem_append_right _ hj) hmd (fun _ p hp => ?_)
      rw [e2]
      refine List.mem_append_left _ (List.mem_filter.2 ⟨List.mem_range.2 (by rw [h.nn]; omega), ?_⟩)
      rw [h.rl p hp, hmd.2.1 p hp]; rfl
    | p1 hp hw =>
      rename_i p
      have hb := h.b0
      have hwg := h.wg
      subst hwg
      have hd0 : a.df (b + p) = 0 := by rw [h.dw p hp (by rw [hw]; simp), hw]; rfl
      refine ⟨.inr (.inr (.inl ⟨rfl, by omega, hd0⟩)), ⟨put ws p (.past 2), ms, m, ts, ?_, fun e => ok_rem (by rw [hw]; rfl) (hok e)⟩, hr⟩
      exact h.work hp rfl rfl rfl rfl (fun _ _ => rfl) (by show a.shut (c p) = _; rw [h.shc p (by omega), hw]; rfl) (fun j hj => put_ne _ _ hj) (fun _ => by show put a.df (b + p) (saidDf (.releaseMerge (stA a.wg)) (a.df (b + p))) (b + p) = _; rw [put_same, hd0]; rfl)
        (fun j hj => by simp [Abs.say, put, hj]) (by simp [Abs.say, put, rws]) (by simp [Abs.say]) (fun q hq => by cases hq; omega) (h.md.keep hp (.inl (by omega)) (by rw [hw]; rfl) (by rw [hw]; exact .inl (by omega)) (by rw [hw]; simp))
    | p2 hp hw =>
      rename_i p
      have hd0 : a.df (b + p) = 0 := by rw [h.dw p hp (by rw [hw]; simp), hw]; rfl
      refine ⟨.inl rfl, ⟨put ws p (.past 3), ms, m, ts, ?_, fun e => ok_rem (by rw [hw]; rfl) (hok e)⟩, hr⟩
      have e1 : (a.say (b + p) .disable ((wscr s Wg (c p) (.past 3)).map .pr)).rel = a.rel := by simp [Abs.say]
      exact h.work hp rfl rfl rfl rfl (fun _ _ => rfl) (by show a.shut (c p) = _; rw [h.shc p (by omega), hw]; rfl) (fun j hj => put_ne _ _ hj) (fun _ => by show put a.df (b + p) (saidDf .disable (a.df (b + p))) (b + p) = _; rw [put_same, hd0]; rfl)
        (fun j hj => by rw [e1]) (by rw [e1, h.rl p hp, hw]; rfl) (by simp [Abs.say]) (fun q hq => by cases hq; omega) (h.md.keep hp (.inl (by omega)) (by rw [hw]; rfl) (by rw [hw]; exact .inl (by omega)) (by rw [hw]; simp))
  inc a i al h hi hsi := by
    obtain ⟨ws, ms, m, ts, h, hok⟩ := h
    have hmM := h.mM
    have hM1 := h.M1
    have hmd := h.md
    have hd := h.head hi hsi
    cases hd with
    | f1 hms hm =>
      rw [hms] at hmd
      obtain ⟨h1, h2, h3, h4, h5, _⟩ := hmd
      have h3 : a.v = VS m ws := h3
      have hle := VS_le (m := m) (ws := ws)
      exact ⟨rfl, h1, by omega, h4, h5, ⟨ws, .fk 2, m, ts, h.mainG rfl (by rw [hms]; rfl) (by rw [hms]; rfl) (by rw [hms]; rfl) ⟨h1, h2, by rw [h3]; rfl, rfl, rfl, .inr ⟨by omega, hm⟩⟩ (by simp), fun _ => hok (by rw [hms]; rfl)⟩, rank_head hi hsi rfl rfl⟩
  dec a i k al h hi hsi := by
    obtain ⟨ws, ms, m, ts, h, hok⟩ := h
    have hmM := h.mM
    have hM1 := h.M1
    have hd := h.head hi hsi
    cases hd with
    | p3 hp hw =>
      rename_i p
      obtain ⟨h1, h2, h3, h4, h5, h6, h7⟩ := h.md.dec hp hw
      refine ⟨by rw [h.dw p hp (by rw [hw]; simp), hw]; exact Nat.one_pos, h1, h2, h3, a.v - 1, by omega, by omega, fun hh => ⟨⟨put ws p (.past 4), ms, m, ts, ?_, fun e => ok_rem (by rw [hw]; rfl) (hok e)⟩, rank_head hi hsi rfl rfl⟩, fun hh => ⟨⟨put ws p (.past 7), ms, m, ts, ?_, fun e => ok_rem (by rw [hw]; rfl) (hok e)⟩, rank_drop hi hsi rfl rfl⟩⟩
      · exact h.workG hp rfl (by rw [hw]; rfl) (by rw [hw]; simp) (fun _ => by rw [hw]; rfl) (by rw [hw]; rfl) (fun q hq => by cases hq; omega) (h6 (by omega))
      · exact h.workG hp rfl (by rw [hw]; rfl) (by rw [hw]; simp) (fun e => absurd rfl e) (by rw [hw]; rfl) (fun q hq => by cases hq; omega) (h7 (by omega))
  ldl a i al h hi hsi := by
    obtain ⟨ws, ms, m, ts, h, hok⟩ := h
    have hd := h.head hi hsi
    cases hd with
    | p4 hp hw =>
      rename_i p
      obtain ⟨hms, h1, hoth, h2, h3, h4⟩ := h.md.last hp hw (by omega) (by omega)
      refine ⟨by rw [h.dw p hp (by rw [hw]; simp), hw]; exact Nat.one_pos, h1, h2, by rw [h3]; rfl, h4, ⟨put ws p (.past 5), ms, m, ts, ?_, fun e => ok_rem (by rw [hw]; rfl) (hok e)⟩, rank_head hi hsi rfl rfl⟩
      rw [← grp_self]
      exact h.workG hp rfl (by rw [hw]; rfl) (by rw [hw]; simp) (fun _ => by rw [hw]; rfl) (by rw [hw]; rfl) (fun q hq => by cases hq; omega) (by rw [hms]; exact ⟨h1, .inr (.inl ⟨p, 5, hp, put_same _ _ _, by omega, by omega, put_oth hoth, h2, by rw [h3]; rfl, h4⟩)⟩)
  clr a i al h hi hsi := by
    obtain ⟨ws, ms, m, ts, h, hok⟩ := h
    have hd := h.head hi hsi
    cases hd with
    | p5 hp hw =>
      rename_i p
      obtain ⟨hms, h1, hoth, h2, h3, h4⟩ := h.md.last hp hw (by omega) (by omega)
      refine ⟨by rw [h.dw p hp (by rw [hw]; simp), hw]; exact Nat.one_pos, h1, h2, by rw [h3]; rfl, h4, ⟨put ws p (.past 6), ms, m, ts, ?_, fun e => ok_rem (by rw [hw]; rfl) (hok e)⟩, rank_head hi hsi rfl rfl⟩
      exact h.workG hp rfl (by rw [hw]; rfl) (by rw [hw]; simp) (fun _ => by rw [hw]; rfl) (by rw [hw]; rfl) (fun q hq => by cases hq; omega) (by rw [hms]; exact ⟨h1, .inr (.inl ⟨p, 6, hp, put_same _ _ _, by omega, by omega, put_oth hoth, rfl, rfl, rfl⟩)⟩)
  rls a i al h hi hsi := by
    obtain ⟨ws, ms, m, ts, h, hok⟩ := h
    have hd := h.head hi hsi
    cases hd with
    | p6 hp hw =>
      rename_i p
      obtain ⟨hms, h1, hoth, h2, h3, h4⟩ := h.md.last hp hw (by omega) (by omega)
      refine ⟨h1, h2, by rw [h3]; rfl, h4, ⟨put ws p (.past 7), ms, m, ts, ?_, fun e => ok_rem (by rw [hw]; rfl) (hok e)⟩, rank_head hi hsi rfl rfl⟩
      exact h.workG hp rfl (by rw [hw]; rfl) (by rw [hw]; simp) (fun e => absurd rfl e) (by rw [hw]; rfl) (fun q hq => by cases hq; omega) (by rw [hms]; exact ⟨h1, .inr (.inr ⟨put_past hoth, rfl, rfl, rfl⟩)⟩)
  wld a i k al h hi hsi := by
    obtain ⟨ws, ms, m, ts, h, hok⟩ := h
    have hmM := h.mM
    have hM1 := h.M1
    have hmd := h.md
    have hd := h.head hi hsi
    cases hd with
    | wl hms =>
      rw [hms] at hmd
      obtain ⟨h1, h2, h3, h4, h5, h6⟩ := hmd
      have hle := VS_le (m := m) (ws := ws)
      refine ⟨rfl, h1, by omega, by omega, h4, h5, fun h0 => ⟨⟨ws, .en, m, ts, ?_, fun e => by cases e⟩, rank_head hi hsi rfl rfl⟩, fun h0 => ?_⟩
      · rw [← grp_self]
        exact h.mainG rfl (by rw [hms]; rfl) (by rw [hms]; rfl) (by rw [hms]; rfl) ⟨h1, all_past h2 (by omega), h0, h4, h5⟩ (by simp)
      · obtain ⟨k', rfl⟩ : ∃ k', k = k' + 1 := ⟨k - 1, by omega⟩
        refine ⟨⟨ws, .cs a.v (k' + 1), m, ts, ?_, fun e => by cases e⟩, rank_put rfl hi rfl ?_⟩
        · rw [← grp_self]
          exact h.mainG rfl (by rw [hms]; rfl) (by rw [hms]; rfl) (by rw [hms]; rfl) ⟨h1, h2, h3, h4, h5, by omega, by omega, by omega⟩ (by simp)
        · rw [hsi]
          simp only [Do.next3, wtRs_cons, wtR, wtP]; omega
  cas a i vs k al h hi hsi := by
    obtain ⟨ws, ms, m, ts, h, hok⟩ := h
    have hmd := h.md
    have hd := h.head hi hsi
    cases hd with
    | cs hms =>
      rw [hms] at hmd
      obtain ⟨h1, h2, h3, h4, h5, h6, h7, h8⟩ := hmd
      refine ⟨rfl, h1, by omega, h4, h5, fun h0 => ⟨⟨ws, .ac, m, ts, ?_, fun e => by cases e⟩, rank_put rfl hi rfl ?_⟩, fun h0 => ?_⟩
      · exact h.mainG rfl (by rw [hms]; rfl) (by rw [hms]; rfl) (by rw [hms]; rfl) ⟨h1, .inl ⟨h2, by omega, h3, rfl, rfl⟩⟩ (by simp)
      · rw [hsi]
        simp only [Do.next, wtRs_cons, wtR, wtP]; omega
      · obtain ⟨k', rfl⟩ : ∃ k', k = k' + 1 := ⟨k - 1, by omega⟩
        refine ⟨⟨ws, .wl k', m, ts, ?_, fun e => by cases e⟩, rank_put rfl hi rfl ?_⟩
        · rw [← grp_self]
          exact h.mainG rfl (by rw [hms]; rfl) (by rw [hms]; rfl) (by rw [hms]; rfl) ⟨h1, h2, h3, h4, h5, by omega⟩ (by simp)
        · rw [hsi]
          simp only [Do.next2, wtRs_cons, wtR, wtP]; omega
  acs a i al h hi hsi := by
    obtain ⟨ws, ms, m, ts, h, hok⟩ := h
    have hmd := h.md
    have hd := h.head hi hsi
    cases hd with
    | ac hms =>
      rw [hms] at hmd
      obtain ⟨h1, h2⟩ := hmd
      rcases h2 with ⟨_, _, _, _, h5⟩ | ⟨_, _, _, _, _, _, _, _, _, h5⟩ | ⟨hall, h3, h4, h5⟩
      · exact ⟨rfl, h1, by omega, fun hh => by omega⟩
      · exact ⟨rfl, h1, by omega, fun hh => by omega⟩
      · exact ⟨rfl, h1, by omega, fun _ => ⟨h3, h4, ⟨ws, .w4, m, ts, h.mainG rfl (by rw [hms]; rfl) (by rw [hms]; rfl) (by rw [hms]; rfl) ⟨h1, hall, rfl, rfl, rfl⟩ (by simp), fun e => by cases e⟩, rank_head hi hsi rfl rfl⟩⟩
  wl4 a i al h hi hsi := by
    obtain ⟨ws, ms, m, ts, h, hok⟩ := h
    have hmd := h.md
    have hd := h.head hi hsi
    cases hd with
    | w4 hms =>
      rw [hms] at hmd
      obtain ⟨h1, h2, h3, h4, h5⟩ := hmd
      refine ⟨rfl, h1, h3, h4, h5, ⟨ws, .en, m, ts, ?_, fun e => by cases e⟩, rank_head hi hsi rfl rfl⟩
      rw [← grp_self]
      exact h.mainG rfl (by rw [hms]; rfl) (by rw [hms]; rfl) (by rw [hms]; rfl) ⟨h1, h2, h3, h4, h5⟩ (by simp)
  quit a i d h hi i0 hsi := by
    obtain ⟨ws, ms, m, ts, h, hok⟩ := h
    refine ⟨⟨ws, ms, m, ts, ⟨h.b0, h.M1, h.inj, h.cs, h.wg, h.nn, h.mM, h.s0, h.sw, h.old, h.fresh, h.q7, h.ckc, h.shc, h.cks, h.shs, ?_, fun p hp hne => ?_, h.rl, h.r0, h.md, h.kn⟩, hok⟩, rfl⟩
    · show put a.df i d 0 = _
      rw [put_ne _ _ (fun e => i0 e.symm)]; exact h.d0
    · show put a.df i d (b + p) = _
      rw [put_ne _ _ (fun e => hne (h.nil hp (by rw [e]; exact hsi)))]
      exact h.dw p hp hne
  unrel a i p al h hi hsi hq := by
    obtain ⟨ws, ms, m, ts, h, hok⟩ := h
    rcases h.who hi with rfl | ⟨h0, h1⟩ | ⟨k, hk, rfl⟩
    · exact h.r0
    · rw [(h.old i h0 h1).1] at hsi; cases hsi
    · rw [h.rl k hk]
      have hs := h.sw k hk
      rw [hsi] at hs
      cases hw : ws k with
      | live l => rfl
      | past q =>
        rw [hw] at hs
        obtain ⟨q1, q2⟩ := h.q7 k q hk hw
        match q, q1, q2, hs with
        | 1, _, _, _ => rfl
        | 2, _, _, hs => simp only [wscr, tailW, List.drop_succ_cons, List.drop_zero, List.map_cons, List.cons.injEq, Do.pr.injEq] at hs; rw [hs.1] at hq; cases hq
        | 3, _, _, hs => simp only [wscr, tailW, List.drop_succ_cons, List.drop_zero, List.map_cons, List.cons.injEq, Do.pr.injEq] at hs; rw [hs.1] at hq; cases hq
        | 4, _, _, hs => simp only [wscr, tailW, List.drop_succ_cons, List.drop_zero, List.map_cons, List.cons.injEq, Do.pr.injEq] at hs; rw [hs.1] at hq; cases hq
        | 5, _, _, hs => simp only [wscr, tailW, List.drop_succ_cons, List.drop_zero, List.map_cons, List.cons.injEq, Do.pr.injEq] at hs; rw [hs.1] at hq; cases hq
        | 6, _, _, hs => simp only [wscr, tailW, List.drop_succ_cons, List.drop_zero, List.map_cons, List.cons.injEq, Do.pr.injEq] at hs; rw [hs.1] at hq; cases hq
        | 7, _, _, hs => simp [wscr, tailW] at hs
        | q + 8, _, q2, _ => omega
  live a h := by
    obtain ⟨ws, ms, m, ts, h, hok⟩ := h
    have hb := h.b0
    have hnn := h.nn
    have h0 : 0 < a.n := by omega
    have hs0 := h.s0
    have hmd := h.md
    -- a worker that is not through with its end
    have wk : ∀ p, p < m → ws p ≠ .past 7 → (∀ v l, ws p = .live (v :: l) → a.shut s = true) → ∃ i, i < a.n ∧ a.Live i := by
      intro p hp hne hsel
      refine ⟨b + p, by omega, ?_⟩
      have hs := h.sw p hp
      cases hw : ws p with
      | live l =>
        rw [hw] at hs
        cases l with
        | nil => exact .inr (.inl ⟨_, _, hs, rfl⟩)
        | cons v l => exact .inr (.inr (.inr (.inr (.inr (.inl ⟨_, _, _, _, _, hs, hsel v l hw⟩)))))
      | past q =>
        rw [hw] at hs hne
        obtain ⟨q1, q2⟩ := h.q7 p q hp hw
        match q, q1, q2, hs, hne with
        | 1, _, _, hs, _ => exact .inr (.inl ⟨_, _, hs, rfl⟩)
        | 2, _, _, hs, _ => exact .inr (.inl ⟨_, _, hs, rfl⟩)
        | 3, _, _, hs, _ => exact .inr (.inl ⟨_, _, hs, rfl⟩)
        | 4, _, _, hs, _ => exact .inr (.inl ⟨_, _, hs, rfl⟩)
        | 5, _, _, hs, _ => exact .inr (.inl ⟨_, _, hs, rfl⟩)
        | 6, _, _, hs, _ => exact .inr (.inl ⟨_, _, hs, rfl⟩)
        | 7, _, _, _, hne => exact absurd rfl hne
        | q + 8, _, q2, _, _ => omega
    cases ms with
    | mg => exact ⟨0, h0, .inr (.inr (.inr (.inl ⟨_, .inl hs0⟩)))⟩
    | mc => exact ⟨0, h0, .inr (.inr (.inr (.inl ⟨_, .inr ⟨_, hs0⟩⟩)))⟩
    | fk sub =>
      obtain ⟨_, _, _, _, _, hsub⟩ := hmd
      cases hsc : a.sc 0 with
      | nil => exact ⟨0, h0, .inl ⟨rfl, hsc⟩⟩
      | cons x al =>
        have hd := h.head h0 hsc
        generalize hz : (0 : Nat) = z at hd
        cases hd with
        | f0 _ _ => exact ⟨0, h0, .inr (.inl ⟨_, _, hsc, rfl⟩)⟩
        | f1 _ _ => exact ⟨0, h0, .inr (.inl ⟨_, _, hsc, rfl⟩)⟩
        | f2 _ _ => exact ⟨0, h0, .inr (.inl ⟨_, _, hsc, rfl⟩)⟩
        | f3 _ _ => exact ⟨0, h0, .inr (.inr (.inl ⟨_, _, _, _, hsc⟩))⟩
        | cls _ _ _ => exact ⟨0, h0, .inr (.inl ⟨_, _, hsc, rfl⟩)⟩
        | rcv hms hmM hts =>
          rename_i p v r
          have hok := hok rfl
          rw [hts] at hok
          obtain ⟨hpM, l', hl', _⟩ := hok
          cases hw : ws p with
          | past q => simp [hw, rem] at hl'
          | live l =>
            simp only [hw, rem] at hl'
            subst hl'
            have hs := h.sw p (by omega)
            rw [hw] at hs
            exact ⟨b + p, by omega, .inr (.inr (.inr (.inr (.inr (.inr (.inr ⟨_, c p, v, _, 0, _, h0, by omega, hs, .inr ⟨_, _, rfl⟩, hsc⟩))))))⟩
        | eof hms hmM hts =>
          rename_i p r
          have hok := hok rfl
          rw [hts] at hok
          obtain ⟨hpM, he, _⟩ := hok
          have hsh := h.shc p hpM
          cases hw : ws p with
          | past q =>
            rw [hw] at hsh
            exact ⟨0, h0, .inr (.inr (.inr (.inr (.inl ⟨_, _, hsc, hsh⟩))))⟩
          | live l => exact wk p (by omega) (by rw [hw]; simp) fun v l' hw' => by simp [hw', rem] at he
        | _ => rename_i h1; first | (cases h1; done) | omega
    | ca => exact ⟨0, h0, .inr (.inl ⟨_, _, hs0, rfl⟩)⟩
    | wl k => exact ⟨0, h0, .inr (.inl ⟨_, _, hs0, rfl⟩)⟩
    | cs vs k => exact ⟨0, h0, .inr (.inl ⟨_, _, hs0, rfl⟩)⟩
    | ac =>
      obtain ⟨h1, h2⟩ := hmd
      rcases h2 with ⟨h2, h3, _, _, _⟩ | ⟨L, q, hL, hq, q1, q2, _⟩ | ⟨hall, _, _, h5⟩
      · have : ∃ p, p < m ∧ ws p ≠ .past 7 := by
          refine Classical.byContradiction fun hn => ?_
          have hz : VS m ws = 0 := by
            have : ∀ p, p < m → cnt (ws p) ≤ 0 := fun p hp => by
              have : ws p = .past 7 := Classical.byContradiction fun h7 => hn ⟨p, hp, h7⟩
              rw [this]; exact Nat.le_refl _
            have := sumTo_le (f := fun p => cnt (ws p)) (c := 0) (j := m) this
            unfold VS; omega
          omega
        obtain ⟨p, hp, h7⟩ := this
        exact wk p hp h7 fun _ _ _ => h.shs
      · exact wk L hL (by rw [hq]; intro e; cases e; omega) fun _ _ _ => h.shs
      · exact ⟨0, h0, .inr (.inr (.inr (.inr (.inr (.inr (.inl ⟨_, hs0, h5⟩))))))⟩
    | w4 => exact ⟨0, h0, .inr (.inl ⟨_, _, hs0, rfl⟩)⟩
    | en => exact ⟨0, h0, .inr (.inl ⟨_, _, hs0, rfl⟩)⟩
    | aq => exact ⟨0, h0, .inr (.inl ⟨_, _, hs0, rfl⟩)⟩
    | nd => exact ⟨0, h0, .inl ⟨rfl, hs0⟩⟩
  fin a h hs := by
    obtain ⟨ws, ms, m, ts, h, hok⟩ := h
    have hms := h.atEnd hs
    rw [h.d0, hms]; rfl
  last a h hs j hj j0 := by
    obtain ⟨ws, ms, m, ts, h, hok⟩ := h
    have hms := h.atEnd hs
    have hmd := h.md
    rw [hms] at hmd
    rcases h.who hj with rfl | ⟨h0, h1⟩ | ⟨k, hk, rfl⟩
    · exact absurd rfl j0
    · exact h.old j h0 h1
    · refine ⟨?_, h.kn hms k hk⟩
      rw [h.sw k hk, hmd.2.1 k hk]; rfl

end
end Go.Proofs.Ytplndihadjfliaa.Mix
/-
  A STAR OF GOROUTINES (crew.Merge): where it begins.
-/
set_option linter.unusedSimpArgs false
set_option linter.unusedVariables false
namespace Go.Proofs.Ytplndihadjfliaa.Mix
open Go Go.Conc Go.ConcN
open Go.ConcR (KK wgBlock WgAt stA smA)

theorem kstar_start {s Wg M : Nat} {c : Nat → Nat} {Tb : Nat → List Nat} {l0 : Nat → List Value} {a : Abs} {ts : List (Nat × Option Value)} (R : a.Rest) (hM : M < 2147483647) (hinj : ∀ p q, p < M → q < M → c p = c q → p = q) (hcs : ∀ p, p < M → c p ≠ s)
    (hnew : ∀ p, p < M → c p ∉ a.ck) (hs : s ∉ a.ck) (hok : okT M l0 ts) : KStar a.n s Wg M c Tb l0 (a.again Wg (msc s Wg M c Tb l0 0 ts .mg)) := by
  refine ⟨fun p => .live (l0 p), .mg, 0, ts, ⟨R.pos, hM, hinj, hcs, rfl, rfl, Nat.zero_le _, (by show put a.sc 0 _ 0 = _; exact put_same _ _ _), fun p hp => (by omega), fun j h0 h1 => ⟨(put_ne _ _ h0).trans (R.ended j h1 h0).1, (R.ended j h1 h0).2⟩, fun p _ _ => rfl, fun p q hp => (by omega), fun p hp => (by omega), fun p hp => ?_, fun e => (by cases e), ?_, R.df0, fun p hp => (by omega), fun p hp => (by omega), rfl, ⟨rfl, rfl⟩, fun e => (by cases e)⟩, fun _ => hok⟩
  · show (decide (c p ∈ a.ck) && a.shut (c p)) = false
    simp [hnew p hp]
  · show (decide (s ∈ a.ck) && a.shut s) = false
    simp [hs]
end Go.Proofs.Ytplndihadjfliaa.Mix
/-
  A NET OF GOROUTINES WITH select AND sync.WaitGroup: what a walk needs of a goroutine's own steps.
-/
set_option linter.unusedSimpArgs false
set_option linter.unusedVariables false
namespace Go.Proofs.Ytplndihadjfliaa.Mix
open Go Go.Conc Go.ConcN
open Go.ConcR (KK wgBlock WgAt stA smA rd wr mk)

section
variable {P : Program} {main : Bool} {b : Frame} {a : Act} {k : List Item} {cs : List Frame} {w : World}

/-- The bottom frame of a goroutine that a go statement has made, its one call taken off it. -/
def bot (P : Program) : Frame := { (default : Frame) with fn := P.funcs.size, defers := [], mode := .panicking [goexitEntry] }

theorem stepG_born {f : FuncId} {fn : Func} {c : Code} {args cap : Array Value} (hf : P.funcs[f]? = some fn) (hname : (fn.name == "runtime.NumGoroutine") = false) (hb : fn.body = some c) :
    stepG P main (born P { target := .fn (.func f) cap, args := args }) w = .go (G ((baseD f).at { tmps := (args ++ cap) ++ Array.replicate (fn.ntmps - (args ++ cap).size) undef, defers := [] } [.code c]) [bot P]) w #[] := by
  have h1 : ¬ fn.name = "runtime.NumGoroutine" := by simpa using hname
  rw [← enter_atD _ hf hb]
  simp [G, born, stepG, unwind, callDeferred, invoke, callFunc, hf, h1, hb, GStep.after, seen_none, bot]

theorem bot_quits : QuitsIn P 1 (G (bot P) []) := by
  refine .inr ⟨rfl, { G (bot P) [] with status := .finished }, fun w => ?_, rfl⟩
  simp [G, stepG, unwind, bot, goexitEntry, Frame.catches]
  rfl

/-- The deferred close, in the frame's list. -/
def dclose (t ty : TypeId) (cc : Array Bool) (c : Nat) : Deferred := { target := .builtin .close #[t] ty cc, args := #[.chan (some c)] }

theorem stepG_defer_close {ops : Array Oper} {i : Nat} {rest : List Nat} {o : Oper} {x : Operand} {t : TypeId} {c : Nat} (ho : ops[i]? = some o) (hw : Region.wanted o (yielded ops a.tmps) = true) (hk : b.kind ≠ .early)
    (hop : o.op = .defer { callee := .builtin .close, args := #[x], argTypes := #[t] }) (hx : a.eval x = .chan (some c)) :
    ∃ cc, stepG P main (G (b.at a (.inRegion ops (i :: rest) :: k)) cs) w = .go (G (b.at (Act.put ⟨a.tmps, dclose t o.type cc c :: a.defers⟩ o.dst undef) (.inRegion ops rest :: k)) cs) w #[] := by
  refine ⟨#[match x with | .const _ => true | _ => false], ?_⟩
  have hr : (execOp a.eval o).run P w = .ok (.defer (dclose t o.type #[match x with | .const _ => true | _ => false] c)) w := by
    unfold execOp
    simp only [hop, resolve, dclose, Sem.run_bind, Sem.run_pure, Result.andThen_ok, List.map_toArray, List.map_cons, List.map_nil, hx]
    cases x <;> rfl
  have he : (execOp a.eval o).events P w #[] = #[] := by
    unfold execOp
    simp only [hop, resolve, Sem.events_bind, Sem.run_pure, Sem.events_pure, Result.evThen_ok]
  have hfin : ∀ d : Deferred, (b.at ⟨a.tmps, d :: a.defers⟩ (.inRegion ops (i :: rest) :: k)).finish undef = b.at (Act.put ⟨a.tmps, d :: a.defers⟩ o.dst undef) (.inRegion ops rest :: k) := fun d => by rw [Frame.finish_at, ho]; rfl
  have hk' : (b.kind == CallKind.early) = false := by simpa using hk
  rw [stepG_oper ho hw, ← hfin]
  simp [stepG.apply, hr, he, G, Frame.at, hk', GStep.after, seen_none]

theorem stepG_unwind_close {todo : List Item} {ds : List Deferred} {t ty : TypeId} {cc : Array Bool} {c s r : Nat} {tm : Bool} (hd : a.defers = dclose t ty cc c :: ds) (hc : w.heap[c]? = some (.chan 0 #[] false s r tm)) (hq : (P.funcs[b.fn]?).any (·.norace) = false) :
    stepG P main (G { b.at a todo with mode := .returning } cs) w = .go (G { b.at ⟨a.tmps, ds⟩ todo with mode := .returning } cs) (w.shut c s r tm) #[⟨.obj c, false, true⟩, ⟨.obj c, true, true⟩] := by
  have hr : (invoke (.builtin .close #[t] ty cc) #[.chan (some c)]).run P w = .ok (.value (.tuple #[])) (w.shut c s r tm) := by
    simp [go_sem, invoke, builtin, run_close_open _ _ hc, World.shut]
  have he : (invoke (.builtin .close #[t] ty cc) #[.chan (some c)]).events P w #[] = #[⟨.obj c, false, true⟩, ⟨.obj c, true, true⟩] := by
    simp [go_sem, invoke, builtin, events_close_open _ _ hc]
  have hl : seen P b.fn #[⟨.obj c, false, true⟩, ⟨.obj c, true, true⟩] = #[⟨.obj c, false, true⟩, ⟨.obj c, true, true⟩] := by
    refine seen_eq hq ?_
    intro e he f
    simp only [List.mem_toArray, List.mem_cons, List.not_mem_nil, or_false] at he
    rcases he with rfl | rfl <;> simp
  simp [G, stepG, unwind, callDeferred, Frame.at, hd, dclose, hr, he, GStep.after] at hl ⊢
  exact hl

/-- A receive with comma-ok: what the step hands up. -/
theorem stepG_recv {ops : Array Oper} {i : Nat} {rest : List Nat} {o : Oper} {c : Nat} {x : Operand} {t : TypeId} {zv : Value} (ho : ops[i]? = some o) (hw : Region.wanted o (yielded ops a.tmps) = true) (hk : b.kind ≠ .early)
    (hr : (execOp a.eval o).run P w = .ok (.comm #[rcase c zv] true (.recv true)) w) (he : (execOp a.eval o).events P w #[] = #[]) :
    stepG P main (G (b.at a (.inRegion ops (i :: rest) :: k)) cs) w = .comm (core (G (b.at a (.inRegion ops (i :: rest) :: k)) cs)) #[rcase c zv] true (.recv true) w #[] := by
  rw [core_G, stepG_comm (cases := #[rcase c zv]) (blocking := true) (shape := .recv true) (w' := w) ho hw hk hr]
  unfold listed
  rw [he]
  simp [seen]

/-- AT A DEFERRED CLOSE, the function on its way out, more being deferred. -/
theorem atCls_of {z : Nat → Value} {ty : TypeId × Bool} {Wg : Nat} {T : List Nat} {N1 N2 : Goroutine → World → Prop} {N3 : Nat → Goroutine → World → Prop} {todo : List Item} {ds : List Deferred} {t u : TypeId} {cc : Array Bool} {c : Nat} {fn : Func} {f : FuncId} (hf : P.funcs[f]? = some fn) (hd : a.defers = dclose t u cc c :: ds) (hq : fn.norace = false)
    (next : ∀ s r tm, w.heap[c]? = some (.chan 0 #[] false s r tm) → ∀ w₂, RW ty Wg T (w.shut c s r tm) w₂ → N1 (G { (baseD f).at ⟨a.tmps, ds⟩ todo with mode := .returning } cs) w₂) :
    AtP P z ty Wg false (RW ty Wg T) (fun _ => EvW T) N1 N2 N3 (G { (baseD f).at a todo with mode := .returning } cs) w (.cls c) := by
  refine ⟨rfl, by simp [mayWake, G, Frame.at], fun s r tm hc => ?_⟩
  refine ⟨_, #[⟨.obj c, false, true⟩], stepG_unwind_close hd hc (by simp [baseD, hf, hq]), .inl rfl, ?_, next s r tm hc⟩
  intro e he
  simp at he
  subst he
  exact ⟨fun m h => (by cases h), .inr ⟨rfl, .inr ⟨c, rfl⟩⟩⟩

/-- AT A RECEIVE that is handed a value. -/
theorem atRcv_of {z : Nat → Value} {ty : TypeId × Bool} {Wg : Nat} {R : World → World → Prop} {Ev : Nat → Event → Prop} {N1 N2 : Goroutine → World → Prop} {N3 : Nat → Goroutine → World → Prop} {ops : Array Oper} {i : Nat} {rest : List Nat} {o : Oper} {c : Nat} {v : Value} (ho : ops[i]? = some o) (hw : Region.wanted o (yielded ops a.tmps) = true) (hk : b.kind ≠ .early)
    (hr : (execOp a.eval o).run P w = .ok (.comm #[rcase c (z c)] true (.recv true)) w) (he : (execOp a.eval o).events P w #[] = #[])
    (next : ∀ w₂, R w w₂ → N1 (G (b.at (a.put o.dst (.tuple #[v, .bool true])) (.inRegion ops rest :: k)) cs) w₂) :
    AtP P z ty Wg main R Ev N1 N2 N3 (G (b.at a (.inRegion ops (i :: rest) :: k)) cs) w (.rcv c v) := by
  refine ⟨rfl, #[], stepG_recv ho hw hk hr he (t := 0) (x := .tmp 0), by simp, fun w₂ h₂ => ?_⟩
  rw [core_G, served_G, ho]; exact next w₂ h₂
/-- .. that finds the channel closed. -/
theorem atEof_of {z : Nat → Value} {ty : TypeId × Bool} {Wg : Nat} {R : World → World → Prop} {Ev : Nat → Event → Prop} {N1 N2 : Goroutine → World → Prop} {N3 : Nat → Goroutine → World → Prop} {ops : Array Oper} {i : Nat} {rest : List Nat} {o : Oper} {c : Nat} (ho : ops[i]? = some o) (hw : Region.wanted o (yielded ops a.tmps) = true) (hk : b.kind ≠ .early)
    (hr : (execOp a.eval o).run P w = .ok (.comm #[rcase c (z c)] true (.recv true)) w) (he : (execOp a.eval o).events P w #[] = #[])
    (next : ∀ w₂, R w w₂ → N1 (G (b.at (a.put o.dst (.tuple #[z c, .bool false])) (.inRegion ops rest :: k)) cs) w₂) :
    AtP P z ty Wg main R Ev N1 N2 N3 (G (b.at a (.inRegion ops (i :: rest) :: k)) cs) w (.eof c) := by
  refine ⟨rfl, #[], stepG_recv ho hw hk hr he (t := 0) (x := .tmp 0), by simp, fun w₂ h₂ => ?_⟩
  rw [core_G, served_G, ho]; exact next w₂ h₂

/-- AT A select of a send and a receive. -/
theorem atSel_of {z : Nat → Value} {ty : TypeId × Bool} {Wg : Nat} {R : World → World → Prop} {Ev : Nat → Event → Prop} {N1 N2 : Goroutine → World → Prop} {N3 : Nat → Goroutine → World → Prop} {ops : Array Oper} {i : Nat} {rest : List Nat} {o : Oper} {c s j : Nat} {v z' zs : Value} (ho : ops[i]? = some o) (hw : Region.wanted o (yielded ops a.tmps) = true) (hk : b.kind ≠ .early)
    (hr : (execOp a.eval o).run P w = .ok (.comm (selc c v z' s zs) true .select) w) (he : (execOp a.eval o).events P w #[] = #[])
    (next : ∀ w₂, R w w₂ → N1 (G (b.at (a.put o.dst (.tuple #[goInt 0, .bool false, zs])) (.inRegion ops rest :: k)) cs) w₂)
    (nxt2 : ∀ w₂, R w w₂ → N2 (G (b.at (a.put o.dst (.tuple #[goInt 1, .bool false, zs])) (.inRegion ops rest :: k)) cs) w₂) :
    AtP P z ty Wg main R Ev N1 N2 N3 (G (b.at a (.inRegion ops (i :: rest) :: k)) cs) w (.sel c v s j) := by
  have hst : stepG P main (G (b.at a (.inRegion ops (i :: rest) :: k)) cs) w = .comm (core (G (b.at a (.inRegion ops (i :: rest) :: k)) cs)) (selc c v z' s zs) true .select w #[] := by
    rw [core_G, stepG_comm (cases := selc c v z' s zs) (blocking := true) (shape := .select) (w' := w) ho hw hk hr]
    unfold listed
    rw [he]
    simp [seen]
  have fin : ∀ (n : Int) (u : Value), (core (G (b.at a (.inRegion ops (i :: rest) :: k)) cs)).finishComm P (selc c v z' s zs) .select n u false = Go.Conc.served (core (G (b.at a (.inRegion ops (i :: rest) :: k)) cs)) (commResult (selc c v z' s zs) .select n u false) := fun _ _ => rfl
  refine ⟨rfl, z', zs, #[], hst, by simp, fun w₂ h₂ => ?_, fun w₂ h₂ => ?_⟩
  · have e : commResult (selc c v z' s zs) .select 0 undef false = .tuple #[goInt 0, .bool false, zs] := by simp [commResult, selc, scase, rcase]
    rw [fin, core_G, served_G, ho, e]
    exact next w₂ h₂
  · have e : commResult (selc c v z' s zs) .select 1 zs false = .tuple #[goInt 1, .bool false, zs] := by simp [commResult, selc, scase, rcase]
    rw [fin, core_G, served_G, ho, e]
    exact nxt2 w₂ h₂
end

/-- The worker's rely and guarantee; goroutine 0's. -/
theorem termsW (ty : TypeId × Bool) (Wg : Nat) (T : List Nat) : Terms (RW ty Wg T) (DW T) := ⟨fun _ _ _ => RW.trans, fun w => ⟨rfl, by simp⟩⟩
theorem termsM (ty : TypeId × Bool) (Wg : Nat) (T ch G : List Nat) : Terms (RC ty Wg ch) (DM ty Wg T ch G) := ⟨fun _ _ _ => RC.trans, fun w => ⟨fun _ _ => rfl, fun _ _ => rfl, Nat.le_refl _, by simp, fun _ h => h⟩⟩

/-- Where a worker stands that has this script to follow. -/
def stopW (P : Program) (z : Nat → Value) (ty : TypeId × Bool) (Wg : Nat) (T : List Nat) (d : Nat) : List Pr → Goroutine → World → Prop
  | [] => fun _ _ => False
  | p :: ps => fun g w => AtP P z ty Wg false (RW ty Wg T) (fun _ => EvW T) (FollowW P z ty Wg T (dfP p d) (p.next ps)) (FollowW P z ty Wg T (dfP p d) (p.next2 ps)) (fun v => FollowW P z ty Wg T (dfP p d) (p.next3 ps v)) g w p
theorem followW_of {P : Program} {z : Nat → Value} {ty : TypeId × Bool} {Wg : Nat} {T : List Nat} {d : Nat} {p : Pr} {ps : List Pr} {n : Nat} {g : Goroutine} {w : World} (h : Goes P false (RW ty Wg T) (DWp T p) (stopW P z ty Wg T d (p :: ps)) n g w) : FollowW P z ty Wg T d (p :: ps) g w := by
  rw [FollowW]; exact ⟨n, h⟩
theorem followW_nil {P : Program} {z : Nat → Value} {ty : TypeId × Bool} {Wg : Nat} {T : List Nat} {d n : Nat} {g : Goroutine} {w : World} (h : QuitsD P n d g) : FollowW P z ty Wg T d [] g w := by
  rw [FollowW]; exact ⟨n, h⟩

/-- Where goroutine 0 stands that has this script to follow. -/
def stopM (P : Program) (z : Nat → Value) (ty : TypeId × Bool) (Wg : Nat) (Post : List Nat → List Nat → List Nat → Goroutine → World → Prop) : List Do → List Nat → List Nat → List Nat → Goroutine → World → Prop
  | [] => fun T ch G => AtEnd Post T ch G
  | .pr p :: al => fun T ch G g w => AtP P z ty Wg true (RC ty Wg ch) (EvM T G) (FollowM P z ty Wg Post (Do.next p al) T ch G) (FollowM P z ty Wg Post (Do.next2 p al) T ch G) (fun v => FollowM P z ty Wg Post (Do.next3 p al v) T ch G) g w p
  | .fork T' cs kid :: al => fun T ch G => AtFork P z ty Wg T ch G T' cs kid (FollowM P z ty Wg Post al (T' ++ T) (cs ++ ch) G)
  | .mkg :: al => fun T ch G => AtMkg P ty Wg (FollowM P z ty Wg Post al T (Wg :: ch) (Wg :: G))
  | .mkc c :: al => fun T ch G => AtMkc P c (FollowM P z ty Wg Post al T (c :: ch) G)
theorem followM_iff {P : Program} {z : Nat → Value} {ty : TypeId × Bool} {Wg : Nat} {Post : List Nat → List Nat → List Nat → Goroutine → World → Prop} {al : List Do} {T ch G : List Nat} {g : Goroutine} {w : World} :
    FollowM P z ty Wg Post al T ch G g w ↔ ∃ n, Goes P true (RC ty Wg ch) (DM ty Wg T ch G) (stopM P z ty Wg Post al T ch G) n g w := by
  cases al with
  | nil => rw [FollowM]; exact Iff.rfl
  | cons x al => cases x <;> rw [FollowM] <;> exact Iff.rfl

/-! ### own steps, one by one, in any company -/
section
variable {P : Program} {main : Bool} {R : World → World → Prop} {D : World → World → Array Event → Prop} {Stop : Goroutine → World → Prop} {n : Nat} {b : Frame} {a : Act} {k : List Item} {cs : List Frame} {w : World} {ops : Array Oper} {i : Nat} {rest : List Nat} {o : Oper}
theorem goes_c (hT : Terms R D) {g g' : Goroutine} (hs : g.status = .running) (h : ∀ w, stepG P main g w = .go g' w #[]) (next : ∀ w₁, R w w₁ → Goes P main R D Stop n g' w₁) : Goes P main R D Stop (n + 1) g w :=
  Goes.step hs fun w₁ h₁ => by rw [h w₁]; exact ⟨hT.idle w₁, next w₁ h₁⟩
theorem goes_rend (hT : Terms R D) {ops : Array Oper} (next : ∀ w₁, R w w₁ → Goes P main R D Stop n (G (b.at a (k)) cs) w₁) : Goes P main R D Stop (n + 1) (G (b.at a (.inRegion ops [] :: k)) cs) w := goes_c hT rfl (fun _ => stepG_region_end) next
theorem goes_sq (hT : Terms R D) {x y : Code} (next : ∀ w₁, R w w₁ → Goes P main R D Stop n (G (b.at a (.code x :: .code y :: k)) cs) w₁) : Goes P main R D Stop (n + 1) (G (b.at a (.code (.seq x y) :: k)) cs) w := goes_c hT rfl (fun _ => stepG_seq) next
theorem goes_sk (hT : Terms R D) (next : ∀ w₁, R w w₁ → Goes P main R D Stop n (G (b.at a (k)) cs) w₁) : Goes P main R D Stop (n + 1) (G (b.at a (.code .skip :: k)) cs) w := goes_c hT rfl (fun _ => stepG_skip) next
theorem goes_bl (hT : Terms R D) {id : Nat} {c : Code} (next : ∀ w₁, R w w₁ → Goes P main R D Stop n (G (b.at a (.code c :: .inBlock id :: k)) cs) w₁) : Goes P main R D Stop (n + 1) (G (b.at a (.code (.block id c) :: k)) cs) w := goes_c hT rfl (fun _ => stepG_block) next
theorem goes_lo (hT : Terms R D) {c : Code} (next : ∀ w₁, R w w₁ → Goes P main R D Stop n (G (b.at a (.code c :: .inLoop c :: k)) cs) w₁) : Goes P main R D Stop (n + 1) (G (b.at a (.code (.loop c) :: k)) cs) w := goes_c hT rfl (fun _ => stepG_loop) next
theorem goes_ib (hT : Terms R D) {id : Nat} (next : ∀ w₁, R w w₁ → Goes P main R D Stop n (G (b.at a (k)) cs) w₁) : Goes P main R D Stop (n + 1) (G (b.at a (.inBlock id :: k)) cs) w := goes_c hT rfl (fun _ => stepG_inBlock) next
theorem goes_il (hT : Terms R D) {c : Code} (next : ∀ w₁, R w w₁ → Goes P main R D Stop n (G (b.at a (.code c :: .inLoop c :: k)) cs) w₁) : Goes P main R D Stop (n + 1) (G (b.at a (.inLoop c :: k)) cs) w := goes_c hT rfl (fun _ => stepG_inLoop) next
theorem goes_rg (hT : Terms R D) {id : Nat} {ops : Array Oper} (next : ∀ w₁, R w w₁ → Goes P main R D Stop n (G (b.at a (.inRegion ops (List.range ops.size) :: k)) cs) w₁) : Goes P main R D Stop (n + 1) (G (b.at a (.code (.region id ops false) :: k)) cs) w := goes_c hT rfl (fun _ => stepG_region) next
theorem goes_rt (hT : Terms R D) (next : ∀ w₁, R w w₁ → Goes P main R D Stop n (G { b.at a (.code .ret :: k) with mode := .returning } cs) w₁) : Goes P main R D Stop (n + 1) (G (b.at a (.code .ret :: k)) cs) w := goes_c hT rfl (fun _ => stepG_ret') next
theorem goes_en (hT : Terms R D) (next : ∀ w₁, R w w₁ → Goes P main R D Stop n (G { b.at a [] with mode := .returning } cs) w₁) : Goes P main R D Stop (n + 1) (G (b.at a []) cs) w := goes_c hT rfl (fun _ => stepG_end) next
theorem goes_cd (hT : Terms R D) {c : Operand} {x y : Code} (t : Bool) (h : a.eval c = .bool t) (next : ∀ w₁, R w w₁ → Goes P main R D Stop n (G (b.at a (.code (if t then x else y) :: k)) cs) w₁) : Goes P main R D Stop (n + 1) (G (b.at a (.code (.cond c x y) :: k)) cs) w := goes_c hT rfl (fun _ => stepG_cond h) next
theorem goes_vn (hT : Terms R D) (v : Value) (ho : ops[i]? = some o) (hw : Region.wanted o (yielded ops a.tmps) = true) (hk : b.kind ≠ .early) (hr : ∀ w, (execOp a.eval o).run P w = .ok (.value v) w) (he : ∀ w, (execOp a.eval o).events P w #[] = #[])
    (next : ∀ w₁, R w w₁ → Goes P main R D Stop n (G (b.at (a.put o.dst v) (.inRegion ops rest :: k)) cs) w₁) : Goes P main R D Stop (n + 1) (G (b.at a (.inRegion ops (i :: rest) :: k)) cs) w :=
  Goes.step rfl fun w₁ h₁ => by
    rw [stepG_value ho hw hk (hr w₁), listed_nil (he w₁)]
    exact ⟨hT.idle w₁, next w₁ h₁⟩
theorem goes_un (hT : Terms R D) (ho : ops[i]? = some o) (hw : Region.wanted o (yielded ops a.tmps) = false)
    (next : ∀ w₁, R w w₁ → Goes P main R D Stop n (G (b.at (a.put o.dst undef) (.inRegion ops rest :: k)) cs) w₁) : Goes P main R D Stop (n + 1) (G (b.at a (.inRegion ops (i :: rest) :: k)) cs) w :=
  goes_c hT rfl (fun w => stepG_unwanted ho hw) next
theorem goes_df (hT : Terms R D) {f : FuncId} {as : Array Operand} {ats : Array TypeId} (ho : ops[i]? = some o) (hw : Region.wanted o (yielded ops a.tmps) = true) (hk : b.kind ≠ .early) (hop : o.op = .defer { callee := .value (.func f), args := as, argTypes := ats })
    (next : ∀ w₁, R w w₁ → Goes P main R D Stop n (G (b.at (Act.put ⟨a.tmps, dcall f (as.map a.eval) :: a.defers⟩ o.dst undef) (.inRegion ops rest :: k)) cs) w₁) : Goes P main R D Stop (n + 1) (G (b.at a (.inRegion ops (i :: rest) :: k)) cs) w :=
  goes_c hT rfl (fun w => stepG_defer ho hw hk hop) next
theorem goes_pv (hT : Terms R D) (v : Value) {f : FuncId} {fn : Func} {as : Array Operand} {ats : Array TypeId} (ho : ops[i]? = some o) (hw : Region.wanted o (yielded ops a.tmps) = true) (hk : b.kind ≠ .early) (hop : o.op = .call { callee := .value (.func f), args := as, argTypes := ats })
    (hf : P.funcs[f]? = some fn) (hname : (fn.name == "runtime.NumGoroutine") = false) (hb : fn.body.isNone = true) (hn : Extern.findNext fn = none) (he : Extern.find fn = some (fun _ => pure v))
    (next : ∀ w₁, R w w₁ → Goes P main R D Stop n (G (b.at (a.put o.dst v) (.inRegion ops rest :: k)) cs) w₁) : Goes P main R D Stop (n + 1) (G (b.at a (.inRegion ops (i :: rest) :: k)) cs) w :=
  goes_c hT rfl (fun w => stepG_entry_pure v ho hw hk hop hf hname hb hn he) next
theorem goes_in (hT : Terms R D) {f : FuncId} {fn : Func} {c : Code} {args : Array Operand} {ats : Array TypeId} (ho : ops[i]? = some o) (hw : Region.wanted o (yielded ops a.tmps) = true) (hk : b.kind ≠ .early) (hop : o.op = .call { callee := .value (.func f), args, argTypes := ats })
    (hf : P.funcs[f]? = some fn) (hname : (fn.name == "runtime.NumGoroutine") = false) (hb : fn.body = some c)
    (next : ∀ w₁, R w w₁ → Goes P main R D Stop n (G ((base f).at { tmps := args.map a.eval ++ Array.replicate (fn.ntmps - (args.map a.eval).size) undef, defers := [] } [.code c]) (b.at a (.inRegion ops (i :: rest) :: k) :: cs)) w₁) : Goes P main R D Stop (n + 1) (G (b.at a (.inRegion ops (i :: rest) :: k)) cs) w :=
  Goes.step rfl fun w₁ h₁ => goes_call ho hw hk hop hf hname hb ⟨hT.idle w₁, next w₁ h₁⟩
section
variable {fn : Func} {todo : List Item} {b₀ : Frame} {a₀ : Act}
theorem goes_l0 (hT : Terms R D) (hn : b.kind = .normal) (hd : a.defers = []) (hf : P.funcs[b.fn]? = some fn) (hr : fn.results = #[])
    (next : ∀ w₁, R w w₁ → Goes P main R D Stop n (G (b₀.at (a₀.put ((ops[i]?).bind (·.dst)) (.tuple #[])) (.inRegion ops rest :: k)) cs) w₁) : Goes P main R D Stop (n + 1) (G { b.at a todo with mode := .returning } (b₀.at a₀ (.inRegion ops (i :: rest) :: k) :: cs)) w :=
  Goes.step rfl fun w₁ h₁ => goes_leave0 hn hd hf hr ⟨hT.idle w₁, next w₁ h₁⟩
theorem goes_l1 (hT : Terms R D) {t : Tmp} (hn : b.kind = .normal) (hd : a.defers = []) (hf : P.funcs[b.fn]? = some fn) (hr : fn.results = #[.tmp t])
    (next : ∀ w₁, R w w₁ → Goes P main R D Stop n (G (b₀.at (a₀.put ((ops[i]?).bind (·.dst)) (a.tmps.getD t undef)) (.inRegion ops rest :: k)) cs) w₁) : Goes P main R D Stop (n + 1) (G { b.at a todo with mode := .returning } (b₀.at a₀ (.inRegion ops (i :: rest) :: k) :: cs)) w :=
  Goes.step rfl fun w₁ h₁ => goes_leave1 hn hd hf hr ⟨hT.idle w₁, next w₁ h₁⟩
end

/-- A frame on its way out says a word. -/
theorem stepG_unwind_mark {todo : List Item} {ds : List Deferred} {f : FuncId} {fn : Func} (m : Mark) (hx : ∀ g, m ≠ .extern g) (hd : a.defers = dcall f #[] :: ds)
    (hf : P.funcs[f]? = some fn) (hname : (fn.name == "runtime.NumGoroutine") = false) (hb : fn.body.isNone = true) (hn : Extern.findNext fn = none)
    (he : Extern.find fn = some (fun _ => do mark m; pure Extern.Race.none_)) : stepG P main (G { b.at a todo with mode := .returning } cs) w = .go (G { b.at ⟨a.tmps, ds⟩ todo with mode := .returning } cs) w #[mk m] :=
  stepG_unwind_entry (v := .tuple #[]) hd hf hname hb hn he (by simp [Extern.Race.none_]) (by simp [mk]) (by
    intro x hx'
    simp [mk] at hx'
    subst hx'
    exact ⟨rfl, fun g h => hx g (Loc.mark.inj h)⟩)
end
theorem termsD0 (ty : TypeId × Bool) (Wg : Nat) (T : List Nat) : Terms (RW ty Wg T) D0 := ⟨fun _ _ _ => RW.trans, fun w => ⟨rfl, rfl⟩⟩
end Go.Proofs.Ytplndihadjfliaa.Mix
