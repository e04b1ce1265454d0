/-
  A ROW OF GOROUTINES: Law's field 'eof'.
-/
import Derived.Test.YtplndihadjfliaaM1
import Derived.Conc.PipeGen
import Derived.Conc.Quits
import Derived.Conc.DeferLaws
import Derived.Conc.CompanyWords
import Derived.Test.YtplndihadjfliaaProg
import Derived.KernelRfl
import Derived.Conc.AppendEvents3
set_option linter.unusedSimpArgs false
set_option linter.unusedVariables false
namespace Go.Proofs.Ytplndihadjfliaa.Net
open Go Go.Conc Go.ConcN

section
variable {b m : Nat} {c : Nat → Nat} {F : Nat → Value → Value} {e : Nat → List Value} {st : Nat → St} {a : Abs}

theorem Row.seen1 (R : Row b (m + 1) c F e st a) {q : Nat} (hp : q + 1 < m + 1) (hs : st (q + 1) = .live none) (he : e q = []) (hd : st q = .done) :
    Row b (m + 1) c F e (put st (q + 1) .clos) (a.seen (b + (q + 1)) (c q) [.pr (.cls (c (q + 1)))]) := by
  have b0 := R.b0
  refine ⟨R.nn, R.b0, R.inj, R.chs, fun j hj j0 => ?_, fun _ => ?_, fun k hk => ?_, fun k hk => ?_, fun k hk h => ?_, fun _ h => ?_, fun _ => ?_, fun k hk => ?_, fun k hk h => ?_, fun k hk h => ?_⟩
  · obtain ⟨x1, x2⟩ := R.old j hj j0
    simp only [Abs.seen, put, show j ≠ b + (q + 1) by omega, show (0 : Nat) ≠ b + (q + 1) by omega, if_false]
    exact ⟨x1, x2⟩
  · simp only [Abs.seen, put, show b ≠ b + (q + 1) by omega, show (0 : Nat) ≠ q + 1 by omega, if_false]
    exact R.s0 (by omega)
  · by_cases h2 : k = q
    · subst h2; simp [Abs.seen, put, Nat.add_assoc, St.scr]
    · simp only [Abs.seen, put, show b + k + 1 ≠ b + (q + 1) by omega, show k + 1 ≠ q + 1 by omega, if_false]
      exact R.sc k hk
  · by_cases h2 : k = q
    · subst h2
      have := R.em k hp
      rw [hs, he] at this
      simp [put, this, St.emit]
    · simp only [put, show k + 1 ≠ q + 1 by omega, if_false]; exact R.em k hk
  · by_cases h2 : k = q
    · subst h2; simp only [put, show k ≠ k + 1 by omega, if_false]; exact hd
    · simp only [put, show k + 1 ≠ q + 1 by omega, if_false] at h
      have := R.dn k hk h
      have h3 : k ≠ q + 1 := by rintro rfl; rw [hs] at this; cases this
      simp only [put, h3, if_false]; exact this
  · simp only [put, show (0 : Nat) ≠ q + 1 by omega, if_false] at h; exact R.e0 (by omega) h
  · simp only [put, show (0 : Nat) ≠ q + 1 by omega, if_false]; exact R.z0 (by omega)
  · by_cases h2 : k = q + 1
    · subst h2
      have := R.sh (q + 1) hk
      rw [hs] at this
      simp only [put, if_true]
      exact ⟨fun h => (by have := this.1 h; cases this), fun h => by cases h⟩
    · simp only [put, h2, if_false]; exact R.sh k hk
  · by_cases h2 : k = q + 1
    · subst h2
      intro q' hq'
      simp only [Abs.seen, put, if_true, List.mem_append]
      exact .inl (R.kc q (by omega) hd q' (by omega))
    · simp only [put, h2, if_false] at h
      simp only [Abs.seen, put, show b + k ≠ b + (q + 1) by omega, if_false]
      exact R.kn k hk h
  · have h2 : k ≠ q + 1 := by rintro rfl; simp only [put, if_true] at h; cases h
    simp only [put, h2, if_false] at h
    exact R.kc k hk h

theorem Row.seen0 (R : Row b (m + 1) c F e st a) (al : List Do) (k : Nat) : Row b (m + 1) c F e st (a.seen 0 k al) := by
  have b0 := R.b0
  refine ⟨R.nn, R.b0, R.inj, R.chs, fun j hj j0 => ?_, fun _ => ?_, fun k hk => ?_, R.em, R.dn, R.e0, R.z0, R.sh, fun k hk h => ?_, R.kc⟩
  · obtain ⟨x1, x2⟩ := R.old j hj j0
    simp only [Abs.seen, put, j0, if_false, if_true, List.mem_append]
    exact ⟨x1, .inr x2⟩
  · simp only [Abs.seen, put, show b ≠ 0 by omega, if_false]; exact R.s0 (by omega)
  · simp only [Abs.seen, put, show b + k + 1 ≠ 0 by omega, if_false]; exact R.sc k hk
  · simp only [Abs.seen, put, show b + k ≠ 0 by omega, if_false]; exact R.kn k hk h

theorem krow_eof {i k : Nat} {al : List Do} (h : KRow b a) (hi : i < a.n) (hs : a.sc i = .pr (.eof k) :: al) (hsh : a.shut k = true) : KRow b (a.seen i k al) ∧ rank (a.seen i k al) < rank a := by
  have hrank := rank_seen hi hs
  refine ⟨?_, hrank⟩
  rcases h.two with ⟨T, c0, vs, l, hn, _, old, _, h0⟩ | ⟨m, c, F, e, st, R, M⟩
  · exact (start_only hn old h0 hi hs).elim
  have b0 := R.b0
  obtain ⟨q, hq, rfl, he, hw⟩ := R.eofAt M hi hs
  have hd := (R.sh q hq).1 hsh
  rcases hw with ⟨hq1, rfl⟩ | ⟨rfl, rfl⟩
  · obtain ⟨q', hq', _, hl, _, ha⟩ := (R.head hq1 hs).isEof
    obtain rfl : q' = q := by omega
    subst ha
    have R' := R.seen1 hq1 hl he hd
    have hs0 : (a.seen (b + (q' + 1)) (c q') [.pr (.cls (c (q' + 1)))]).sc 0 = a.sc 0 := by simp only [Abs.seen, put, show (0 : Nat) ≠ b + (q' + 1) by omega, if_false]
    rcases M with ⟨l, hf, h0⟩ | ⟨hdm, h0⟩
    · exact .go l R' hf (by rw [hs0, h0])
    · have := R.allDone hdm (m - (q' + 1)) (by omega)
      rw [show m - (m - (q' + 1)) = q' + 1 by omega, hl] at this
      cases this
  · rcases M with ⟨l, hf, h0⟩ | ⟨hdm, h0⟩
    · rw [h0] at hs
      rcases mains_head hs with ⟨_, _, _, ha⟩ | ⟨_, _, _, _, h, _⟩ | ⟨_, _, _, _, h, _⟩
      · subst ha
        refine .fin (R.seen0 [] (c q)) hd (fun k hk => ?_) (by simp [Abs.seen, put])
        simp only [Abs.seen, put, if_true, List.mem_append]
        exact .inl (R.kc q hq hd k hk)
      · cases h
      · cases h
    · rw [h0] at hs; cases hs

end
end Go.Proofs.Ytplndihadjfliaa.Net
/-
  A ROW OF GOROUTINES: Law's field 'fork'.
-/
set_option linter.unusedSimpArgs false
set_option linter.unusedVariables false
namespace Go.Proofs.Ytplndihadjfliaa.Net
open Go Go.Conc Go.ConcN

section
variable {b m : Nat} {c : Nat → Nat} {F : Nat → Value → Value} {e : Nat → List Value} {st : Nat → St} {a : Abs}

theorem src_ne (c : Nat) (vs : List Value) : src c vs ≠ [] := by simp [src]
theorem hnd_ne (ci co : Nat) (F : Value → Value) (xs : List Value) : hnd ci co F xs ≠ [] := by cases xs <;> simp [hnd]

theorem Row.first {T : List Nat} {c0 : Nat} {vs : List Value} {al : List Do} (hn : a.n = b) (b0 : 0 < b) (old : ∀ j, j < b → j ≠ 0 → a.sc j = [] ∧ j ∈ a.kn 0) (hsh : a.shut c0 = false) :
    Row b (0 + 1) (fun _ => c0) (fun _ v => v) (fun _ => vs) (fun _ => .live none) (a.fork [c0] (src c0 vs) al) := by
  refine ⟨by show a.n + 1 = _; omega, b0, fun p q _ _ _ => by omega, fun p hp => by simp [Abs.fork], fun j hj j0 => ?_, fun _ => ?_, fun k hk => by omega, fun k hk => by omega, fun k hk => by omega, fun _ h => (by cases h), fun _ => .inr rfl, fun k hk => ?_, fun k hk h => ?_, fun k hk h => (by cases h)⟩
  · obtain ⟨x1, x2⟩ := old j hj j0
    simp only [Abs.fork, put, show j ≠ a.n by omega, show (0 : Nat) ≠ a.n by omega, j0, if_false]
    exact ⟨x1, x2⟩
  · simp [Abs.fork, put, hn, St.scr0]
  · show a.shut c0 = true ↔ _
    rw [hsh]
    exact ⟨fun h => (by cases h), fun h => by cases h⟩
  · rcases h with h | h <;> cases h

theorem Row.next (R : Row b (m + 1) c F e st a) {co : Nat} {G : Value → Value} {al : List Do} (hc : co ∉ a.ch) (hsh : a.shut co = false) :
    Row b (m + 1 + 1) (put c (m + 1) co) (put F (m + 1) G) (put e (m + 1) ((e m).map G)) (put st (m + 1) (.live none)) (a.fork [co] (hnd (c m) co G (e m)) al) := by
  have b0 := R.b0
  have hn := R.nn
  refine ⟨by show a.n + 1 = _; omega, b0, fun p q hp hq h => ?_, fun p hp => ?_, fun j hj j0 => ?_, fun _ => ?_, fun k hk => ?_, fun k hk => ?_, fun k hk h => ?_, fun _ h => ?_, fun _ => ?_, fun k hk => ?_, fun k hk h => ?_, fun k hk h => ?_⟩
  · by_cases h1 : p = m + 1
    · by_cases h2 : q = m + 1
      · omega
      · simp only [put, h1, h2, if_false, if_true] at h
        exact absurd (h ▸ R.chs q (by omega)) hc
    · by_cases h2 : q = m + 1
      · simp only [put, h1, h2, if_false, if_true] at h
        exact absurd (h ▸ R.chs p (by omega)) hc
      · simp only [put, h1, h2, if_false] at h
        exact R.inj p q (by omega) (by omega) h
  · by_cases h1 : p = m + 1
    · simp [Abs.fork, put, h1]
    · simp only [Abs.fork, put, h1, if_false, List.mem_append]
      exact .inr (R.chs p (by omega))
  · obtain ⟨x1, x2⟩ := R.old j hj j0
    simp only [Abs.fork, put, show j ≠ a.n by omega, show (0 : Nat) ≠ a.n by omega, j0, if_false]
    exact ⟨x1, x2⟩
  · simp only [Abs.fork, put, show b ≠ a.n by omega, show b ≠ 0 by omega, show (0 : Nat) ≠ m + 1 by omega, if_false]
    exact R.s0 (by omega)
  · by_cases h1 : k = m
    · subst h1
      simp only [Abs.fork, put, show b + k + 1 = a.n by omega, show k ≠ k + 1 by omega, if_true, if_false, St.scr]
    · simp only [Abs.fork, put, show b + k + 1 ≠ a.n by omega, show b + k + 1 ≠ 0 by omega, show k + 1 ≠ m + 1 by omega, show k ≠ m + 1 by omega, if_false]
      exact R.sc k (by omega)
  · by_cases h1 : k = m
    · subst h1; simp [put, St.emit]
    · simp only [put, show k + 1 ≠ m + 1 by omega, show k ≠ m + 1 by omega, if_false]; exact R.em k (by omega)
  · by_cases h1 : k = m
    · subst h1
      simp only [put, if_true] at h
      rcases h with h | h <;> cases h
    · simp only [put, show k + 1 ≠ m + 1 by omega, show k ≠ m + 1 by omega, if_false] at h ⊢; exact R.dn k (by omega) h
  · simp only [put, show (0 : Nat) ≠ m + 1 by omega, if_false] at h ⊢; exact R.e0 (by omega) h
  · simp only [put, show (0 : Nat) ≠ m + 1 by omega, if_false]; exact R.z0 (by omega)
  · by_cases h1 : k = m + 1
    · subst h1
      simp only [put, if_true]
      show a.shut co = true ↔ _
      rw [hsh]
      exact ⟨fun h => (by cases h), fun h => by cases h⟩
    · simp only [put, h1, if_false]; exact R.sh k (by omega)
  · have h1 : k ≠ m + 1 := by rintro rfl; simp only [put, if_true] at h; rcases h with h | h <;> cases h
    simp only [put, h1, if_false] at h
    simp only [Abs.fork, put, show b + k ≠ a.n by omega, if_false]
    exact R.kn k (by omega) h
  · have h1 : k ≠ m + 1 := by rintro rfl; simp only [put, if_true] at h; cases h
    simp only [put, h1, if_false] at h ⊢
    exact R.kc k (by omega) h

theorem Fresh.tail {x : Nat × (Value → Value)} {l : List (Nat × (Value → Value))} (h : Fresh a (x :: l)) (kid : List Pr) (al : List Do) : Fresh (a.fork [x.1] kid al) l := by
  obtain ⟨h1, h2⟩ := h
  rw [List.map_cons, List.nodup_cons] at h1
  refine ⟨h1.2, fun y hy => ?_⟩
  obtain ⟨x1, x2⟩ := h2 y (by simp [hy])
  refine ⟨?_, x2⟩
  simp only [Abs.fork, List.cons_append, List.nil_append, List.mem_cons, not_or]
  exact ⟨fun h => h1.1 (h ▸ List.mem_map_of_mem hy), x1⟩

theorem krow_fork {i : Nat} {T cs : List Nat} {kid : List Pr} {al : List Do} (h : KRow b a) (hi : i < a.n) (hs : a.sc i = .fork T cs kid :: al) :
    i = 0 ∧ kid ≠ [] ∧ (∀ c ∈ cs, a.shut c = false) ∧ KRow b (a.fork cs kid al) ∧ rank (a.fork cs kid al) < rank a := by
  have i0 : i = 0 := by
    rcases h.two with ⟨T, c0, vs, l, hn, _, old, _, h0⟩ | ⟨m, c, F, e, st, R, M⟩
    · by_cases e0 : i = 0
      · exact e0
      · rw [(old i (by omega) e0).1] at hs; cases hs
    · rcases R.who hi (by rw [hs]; simp) with e0 | ⟨p, hp, rfl⟩
      · exact e0
      · exact (R.head hp hs).noFork.elim
  subst i0
  refine ⟨rfl, ?_⟩
  have hrank := rank_fork hi hs
  cases h with
  | start T c0 vs l hn b0 old hf h0 =>
    rw [h0] at hs
    cases hs
    have hsh := (hf.2 (c0, id) (by simp)).2
    refine ⟨src_ne _ _, fun c hc => ?_, ?_, hrank⟩
    · simp only [List.mem_singleton] at hc; subst hc; exact hsh
    · refine .go l (Row.first (T := []) hn b0 old hsh) (hf.tail _ _) ?_
      simp only [Abs.fork, put, show (0 : Nat) ≠ a.n by omega, if_false, if_true]
  | @go m c F e st l R hf h0 =>
    rw [h0] at hs
    rcases mains_head hs with ⟨_, _, h, _⟩ | ⟨_, _, _, _, h, _⟩ | ⟨co, G, l', rfl, h, rfl⟩
    · cases h
    · cases h
    · cases h
      obtain ⟨x1, x2⟩ := hf.2 (co, G) (by simp)
      refine ⟨hnd_ne _ _ _ _, fun c hc => ?_, ?_, hrank⟩
      · simp only [List.mem_singleton] at hc; subst hc; exact x2
      · refine .go l' (R.next x1 x2) (hf.tail _ _) ?_
        have := R.nn
        simp only [Abs.fork, put, show (0 : Nat) ≠ a.n by omega, if_false, if_true]
  | fin R hd hk h0 => rw [h0] at hs; cases hs

/-- Law's field 'live'. -/
theorem Row.alive (R : Row b (m + 1) c F e st a) : ∀ p t, p < m + 1 → t < a.n → t ≠ b + p → ((∃ v es bs, e p = v :: es ∧ a.sc t = .pr (.rcv (c p) v) :: bs) ∨ (e p = [] ∧ ∃ bs, a.sc t = .pr (.eof (c p)) :: bs)) → ∃ i, i < a.n ∧ a.Live i := by
  have hn := R.nn
  intro p
  induction p with
  | zero =>
    intro t hp ht hne h
    have h0 := R.s0 hp
    rcases R.z0 hp with hd | hd
    · have he := R.e0 hp hd
      rcases h with ⟨v, es, bs, he', _⟩ | ⟨_, bs, hs⟩
      · rw [he] at he'; cases he'
      · exact ⟨t, ht, .inr (.inr (.inr (.inl ⟨_, _, hs, (R.sh 0 hp).2 hd⟩)))⟩
    · rw [hd] at h0
      rcases h with ⟨v, es, bs, he, hs⟩ | ⟨he, bs, hs⟩
      · rw [he] at h0
        simp only [St.scr0, src, List.map_cons, List.cons_append] at h0
        exact ⟨b, by omega, .inr (.inr (.inr (.inr ⟨c 0, v, _, t, bs, ht, by simpa using hne, h0, hs⟩)))⟩
      · rw [he] at h0
        exact ⟨b, by omega, .inr (.inl ⟨_, _, h0⟩)⟩
  | succ q ih =>
    intro t hp ht hne h
    have h0 := R.sc q hp
    have hem := R.em q hp
    cases hs' : st (q + 1) with
    | done =>
      rw [hs'] at hem
      rcases h with ⟨v, es, bs, he', _⟩ | ⟨_, bs, hs⟩
      · rw [hem] at he'; cases he'
      · exact ⟨t, ht, .inr (.inr (.inr (.inl ⟨_, _, hs, (R.sh (q + 1) hp).2 hs'⟩)))⟩
    | clos =>
      rw [hs'] at h0
      exact ⟨b + q + 1, by omega, .inr (.inl ⟨_, _, h0⟩)⟩
    | live o =>
      cases o with
      | some v =>
        rw [hs'] at h0 hem
        rcases h with ⟨v', es, bs, he, hs⟩ | ⟨he, bs, hs⟩
        · rw [hem] at he
          cases he
          exact ⟨b + q + 1, by omega, .inr (.inr (.inr (.inr ⟨_, v, _, t, bs, ht, hne, h0, hs⟩)))⟩
        · rw [hem] at he; cases he
      | none =>
        rw [hs'] at h0
        refine ih (b + q + 1) (by omega) (by omega) (by omega) ?_
        cases he : e q with
        | nil => rw [he] at h0; exact .inr ⟨rfl, _, h0⟩
        | cons v es => rw [he] at h0; exact .inl ⟨v, es, _, rfl, h0⟩

theorem krow_live (h : KRow b a) : ∃ i, i < a.n ∧ a.Live i := by
  have hpos := krow_pos h
  cases h with
  | start T c0 vs l hn b0 old hf h0 => exact ⟨0, hpos, .inr (.inr (.inl ⟨_, _, _, _, h0⟩))⟩
  | @go m c F e st l R hf h0 =>
    have b0 := R.b0
    cases l with
    | nil =>
      refine R.alive m 0 (by omega) hpos (by omega) ?_
      cases he : e m with
      | nil => rw [he] at h0; exact .inr ⟨rfl, _, h0⟩
      | cons v es => rw [he] at h0; exact .inl ⟨v, es, _, rfl, h0⟩
    | cons x l =>
      obtain ⟨co, G⟩ := x
      exact ⟨0, hpos, .inr (.inr (.inl ⟨_, _, _, _, h0⟩))⟩
  | fin R hd hk h0 => exact ⟨0, hpos, .inl ⟨rfl, h0⟩⟩

/-- THE ROW MEETS THE LAW. -/
theorem krow_law (b : Nat) : Law (KRow b) rank where
  pos _ h := krow_pos h
  pass _ _ _ _ _ _ _ _ h hi hj hs hr := krow_pass h hi hj hs hr
  noEof _ _ _ _ _ _ _ h hi hj hs := krow_noEof h hi hj hs
  sndOpen _ _ _ _ _ h hi hs := krow_sndOpen h hi hs
  rcvOpen _ _ _ _ _ h hi hs := krow_rcvOpen h hi hs
  eofIn _ _ _ _ h hi hs := krow_eofIn h hi hs
  sndOne _ _ _ _ _ _ _ _ h hi hj hs hs' := krow_sndOne h hi hj hs hs'
  rcvOne _ _ _ _ _ _ _ _ h hi hj hs hs' := krow_rcvOne h hi hj hs hs'
  rcvEof _ _ _ _ _ _ _ h hi hj hs := krow_rcvEof h hi hj hs
  eof _ _ _ _ h hi hs hsh := krow_eof h hi hs hsh
  cls _ _ _ _ h hi hs := krow_cls h hi hs
  fork _ _ _ _ _ _ h hi hs := krow_fork h hi hs
  live _ h := krow_live h
  last _ h h0 := krow_last h h0

end
end Go.Proofs.Ytplndihadjfliaa.Net
/-
  A NET OF GOROUTINES: what a walk needs of a goroutine's own steps: its birth, a deferred close, its leaving; at a send, a receive, a go statement.
-/
set_option linter.unusedSimpArgs false
set_option linter.unusedVariables false
namespace Go.Proofs.Ytplndihadjfliaa.Net
open Go Go.Conc Go.ConcN

section
variable {P : Program} {main : Bool} {b : Frame} {a : Act} {k : List Item} {cs : List Frame} {w : World}

/-- The bottom frame of a goroutine that a go statement has made, its one call taken off it. -/
def bot (P : Program) : Frame := { (default : Frame) with fn := P.funcs.size, defers := [], mode := .panicking [goexitEntry] }

theorem stepG_born {f : FuncId} {fn : Func} {c : Code} {args cap : Array Value} (hf : P.funcs[f]? = some fn) (hname : (fn.name == "runtime.NumGoroutine") = false) (hb : fn.body = some c) :
    stepG P main (born P { target := .fn (.func f) cap, args := args }) w = .go (G ((baseD f).at { tmps := (args ++ cap) ++ Array.replicate (fn.ntmps - (args ++ cap).size) undef, defers := [] } [.code c]) [bot P]) w #[] := by
  have h1 : ¬ fn.name = "runtime.NumGoroutine" := by simpa using hname
  rw [← enter_atD _ hf hb]
  simp [G, born, stepG, unwind, callDeferred, invoke, callFunc, hf, h1, hb, GStep.after, seen_none, bot]

theorem bot_quits : QuitsIn P 1 (G (bot P) []) := by
  refine .inr ⟨rfl, { G (bot P) [] with status := .finished }, fun w => ?_, rfl⟩
  simp [G, stepG, unwind, bot, goexitEntry, Frame.catches]
  rfl

/-- The deferred close, in the frame's list. -/
def dclose (t ty : TypeId) (cc : Array Bool) (c : Nat) : Deferred := { target := .builtin .close #[t] ty cc, args := #[.chan (some c)] }

theorem stepG_defer_close {ops : Array Oper} {i : Nat} {rest : List Nat} {o : Oper} {x : Operand} {t : TypeId} {c : Nat} (ho : ops[i]? = some o) (hw : Region.wanted o (yielded ops a.tmps) = true) (hk : b.kind ≠ .early)
    (hop : o.op = .defer { callee := .builtin .close, args := #[x], argTypes := #[t] }) (hx : a.eval x = .chan (some c)) :
    ∃ cc, stepG P main (G (b.at a (.inRegion ops (i :: rest) :: k)) cs) w = .go (G (b.at (Act.put ⟨a.tmps, dclose t o.type cc c :: a.defers⟩ o.dst undef) (.inRegion ops rest :: k)) cs) w #[] := by
  refine ⟨#[match x with | .const _ => true | _ => false], ?_⟩
  have hr : (execOp a.eval o).run P w = .ok (.defer (dclose t o.type #[match x with | .const _ => true | _ => false] c)) w := by
    unfold execOp
    simp only [hop, resolve, dclose, Sem.run_bind, Sem.run_pure, Result.andThen_ok, List.map_toArray, List.map_cons, List.map_nil, hx]
    cases x <;> rfl
  have he : (execOp a.eval o).events P w #[] = #[] := by
    unfold execOp
    simp only [hop, resolve, Sem.events_bind, Sem.run_pure, Sem.events_pure, Result.evThen_ok]
  have hfin : ∀ d : Deferred, (b.at ⟨a.tmps, d :: a.defers⟩ (.inRegion ops (i :: rest) :: k)).finish undef = b.at (Act.put ⟨a.tmps, d :: a.defers⟩ o.dst undef) (.inRegion ops rest :: k) := fun d => by rw [Frame.finish_at, ho]; rfl
  have hk' : (b.kind == CallKind.early) = false := by simpa using hk
  rw [stepG_oper ho hw, ← hfin]
  simp [stepG.apply, hr, he, G, Frame.at, hk', GStep.after, seen_none]

theorem stepG_unwind_close {todo : List Item} {ds : List Deferred} {t ty : TypeId} {cc : Array Bool} {c s r : Nat} {tm : Bool} (hd : a.defers = dclose t ty cc c :: ds) (hc : w.heap[c]? = some (.chan 0 #[] false s r tm)) (hq : (P.funcs[b.fn]?).any (·.norace) = false) :
    stepG P main (G { b.at a todo with mode := .returning } cs) w = .go (G { b.at ⟨a.tmps, ds⟩ todo with mode := .returning } cs) (w.shut c s r tm) #[⟨.obj c, false, true⟩, ⟨.obj c, true, true⟩] := by
  have hr : (invoke (.builtin .close #[t] ty cc) #[.chan (some c)]).run P w = .ok (.value (.tuple #[])) (w.shut c s r tm) := by
    simp [go_sem, invoke, builtin, run_close_open _ _ hc, World.shut]
  have he : (invoke (.builtin .close #[t] ty cc) #[.chan (some c)]).events P w #[] = #[⟨.obj c, false, true⟩, ⟨.obj c, true, true⟩] := by
    simp [go_sem, invoke, builtin, events_close_open _ _ hc]
  have hl : seen P b.fn #[⟨.obj c, false, true⟩, ⟨.obj c, true, true⟩] = #[⟨.obj c, false, true⟩, ⟨.obj c, true, true⟩] := by
    refine seen_eq hq ?_
    intro e he f
    simp only [List.mem_toArray, List.mem_cons, List.not_mem_nil, or_false] at he
    rcases he with rfl | rfl <;> simp
  simp [G, stepG, unwind, callDeferred, Frame.at, hd, dclose, hr, he, GStep.after] at hl ⊢
  exact hl

/-- AT A DEFERRED CLOSE, the function on its way out, the goroutine's last: behind it it only leaves. -/
theorem atCls_of {z : Nat → Value} {T : List Nat} {todo : List Item} {t ty : TypeId} {cc : Array Bool} {c : Nat} {fn : Func} {f : FuncId} (hf : P.funcs[f]? = some fn) (hr : fn.results = #[]) (hd : a.defers = [dclose t ty cc c]) (hq : fn.norace = false) :
    AtP P z false (RW T) (EvW T) (FollowW P z T []) (G { (baseD f).at a todo with mode := .returning } [bot P]) w (.cls c) := by
  refine ⟨rfl, by simp [mayWake, G, Frame.at], fun s r tm hc => ?_⟩
  refine ⟨_, #[⟨.obj c, false, true⟩], stepG_unwind_close hd hc (by simp [baseD, hf, hq]), .inl rfl, ?_, fun w₂ _ => ⟨2, ?_⟩⟩
  · intro e he
    simp at he
    subst he
    exact ⟨fun m h => (by cases h), .inr ⟨rfl, .inr ⟨c, rfl⟩⟩⟩
  · refine .inr ⟨rfl, G (bot P) [], fun w => ?_, bot_quits⟩
    have := stepG_leave_deferred (P := P) (main := false) (b := baseD f) (a := ⟨a.tmps, []⟩) (todo := todo) (cs := []) (w := w) (c := bot P) (v := .tuple #[]) (fn := fn)
    simp [G, stepG, unwind, doReturn, results, Frame.at, baseD, bot, hf, hr, seen, GStep.after, goexitEntry]

/-- AT A SEND. -/
theorem atSnd_of {z : Nat → Value} {R : World → World → Prop} {Ev : Event → Prop} {Next : Goroutine → World → Prop} {ops : Array Oper} {i : Nat} {rest : List Nat} {o : Oper} {c : Nat} {x y : Operand} {v : Value} (ho : ops[i]? = some o) (hw : Region.wanted o (yielded ops a.tmps) = true) (hk : b.kind ≠ .early) (hop : o.op = .send x y)
    (hx : a.eval x = .chan (some c)) (hy : a.eval y = v) (next : ∀ w₂, R w w₂ → Next (G (b.at (a.put o.dst undef) (.inRegion ops rest :: k)) cs) w₂) :
    AtP P z main R Ev Next (G (b.at a (.inRegion ops (i :: rest) :: k)) cs) w (.snd c v) := by
  refine ⟨rfl, G (b.at a (.inRegion ops (i :: rest) :: k)) cs, .tuple #[], #[], ?_, by simp, fun w₂ h₂ => ?_⟩
  · rw [stepG_comm (cases := #[scase c v (.tuple #[])]) (blocking := true) (shape := .send) (w' := w) ho hw hk (by simp [execOp, hop, hx, hy, scase])]
    have he : (execOp a.eval o).events P w #[] = #[] := by
      unfold execOp
      simp only [hop]
      rfl
    unfold listed
    rw [he]
    simp [seen]
  · rw [served_G, ho]; exact next w₂ h₂

/-- A receive with comma-ok: what the step hands up. -/
theorem stepG_recv {ops : Array Oper} {i : Nat} {rest : List Nat} {o : Oper} {c : Nat} {x : Operand} {t : TypeId} {zv : Value} (ho : ops[i]? = some o) (hw : Region.wanted o (yielded ops a.tmps) = true) (hk : b.kind ≠ .early)
    (hr : (execOp a.eval o).run P w = .ok (.comm #[rcase c zv] true (.recv true)) w) (he : (execOp a.eval o).events P w #[] = #[]) :
    stepG P main (G (b.at a (.inRegion ops (i :: rest) :: k)) cs) w = .comm (core (G (b.at a (.inRegion ops (i :: rest) :: k)) cs)) #[rcase c zv] true (.recv true) w #[] := by
  rw [core_G, stepG_comm (cases := #[rcase c zv]) (blocking := true) (shape := .recv true) (w' := w) ho hw hk hr]
  unfold listed
  rw [he]
  simp [seen]

/-- AT A RECEIVE that is handed a value. -/
theorem atRcv_of {z : Nat → Value} {R : World → World → Prop} {Ev : Event → Prop} {Next : Goroutine → World → Prop} {ops : Array Oper} {i : Nat} {rest : List Nat} {o : Oper} {c : Nat} {v : Value} (ho : ops[i]? = some o) (hw : Region.wanted o (yielded ops a.tmps) = true) (hk : b.kind ≠ .early)
    (hr : (execOp a.eval o).run P w = .ok (.comm #[rcase c (z c)] true (.recv true)) w) (he : (execOp a.eval o).events P w #[] = #[])
    (next : ∀ w₂, R w w₂ → Next (G (b.at (a.put o.dst (.tuple #[v, .bool true])) (.inRegion ops rest :: k)) cs) w₂) :
    AtP P z main R Ev Next (G (b.at a (.inRegion ops (i :: rest) :: k)) cs) w (.rcv c v) := by
  refine ⟨rfl, #[], stepG_recv ho hw hk hr he (t := 0) (x := .tmp 0), by simp, fun w₂ h₂ => ?_⟩
  rw [core_G, served_G, ho]; exact next w₂ h₂
/-- .. that finds the channel closed. -/
theorem atEof_of {z : Nat → Value} {R : World → World → Prop} {Ev : Event → Prop} {Next : Goroutine → World → Prop} {ops : Array Oper} {i : Nat} {rest : List Nat} {o : Oper} {c : Nat} (ho : ops[i]? = some o) (hw : Region.wanted o (yielded ops a.tmps) = true) (hk : b.kind ≠ .early)
    (hr : (execOp a.eval o).run P w = .ok (.comm #[rcase c (z c)] true (.recv true)) w) (he : (execOp a.eval o).events P w #[] = #[])
    (next : ∀ w₂, R w w₂ → Next (G (b.at (a.put o.dst (.tuple #[z c, .bool false])) (.inRegion ops rest :: k)) cs) w₂) :
    AtP P z main R Ev Next (G (b.at a (.inRegion ops (i :: rest) :: k)) cs) w (.eof c) := by
  refine ⟨rfl, #[], stepG_recv ho hw hk hr he (t := 0) (x := .tmp 0), by simp, fun w₂ h₂ => ?_⟩
  rw [core_G, served_G, ho]; exact next w₂ h₂
end

/-- The worker's rely and guarantee. -/
theorem termsW (T : List Nat) : Terms (RW T) (DW T) := ⟨fun _ _ _ => RW.trans, fun w => ⟨rfl, by simp⟩⟩
theorem termsM (T ch : List Nat) : Terms (RC ch) (DM T ch) := ⟨fun _ _ _ => RC.trans, fun w => ⟨fun _ _ => rfl, fun _ _ => rfl, by simp⟩⟩

end Go.Proofs.Ytplndihadjfliaa.Net
/-
  CREW: the walk of crew.hand: it takes from one channel and hands on to the next.
-/
set_option linter.unusedSimpArgs false
set_option linter.unusedVariables false
set_option maxHeartbeats 1000000
namespace Go.Proofs.Ytplndihadjfliaa.Net
open Go Go.Conc Go.ConcN Go.Proofs

attribute [go_sem] Instr.makeChan
@[go_sem] theorem run_makeFunc' (P : Program) (fn : Fn) (first cap : Array Value) (w : World) : (Instr.makeFunc fn first cap).run P w = .ok (.func fn first cap) w := rfl
@[go_sem] theorem events_makeFunc' (P : Program) (fn : Fn) (first cap : Array Value) (w : World) (es : Array Event) : (Instr.makeFunc fn first cap).events P w es = es := rfl

/-- Where a worker stands that has this script to follow. -/
def stopW (P : Program) (z : Nat → Value) (T : List Nat) : List Pr → Goroutine → World → Prop
  | [] => fun _ _ => False
  | p :: ps => StopW P z T (FollowW P z T ps) p
theorem followW_of {P : Program} {z : Nat → Value} {T : List Nat} {ps : List Pr} {n : Nat} {g : Goroutine} {w : World} (hp : ps ≠ []) (h : Goes P false (RW T) (DW T) (stopW P z T ps) n g w) : FollowW P z T ps g w := by
  cases ps with
  | nil => exact absurd rfl hp
  | cons p ps => exact ⟨n, h⟩

/-- Numbers as values. -/
abbrev iv (x : Int) : Value := .int .i64 x
def zi : Nat → Value := fun _ => iv 0
/-- What a hand makes of a number. -/
def addV (d : Int) : Value → Value
  | .int .i64 x => iv (IntKind.i64.wrap (x + d))
  | v => v

noncomputable def body20 : Code := Try.f20.body.getD .skip
noncomputable def L20 : Code := match body20 with | .seq _ (.block _ (.loop c)) => c | _ => .skip
noncomputable def ops20a : Array Oper := match L20 with | .block _ (.seq (.region _ ops _) _) => ops | _ => #[]
noncomputable def ops20d : Array Oper := match body20 with | .seq (.region _ ops _) _ => ops | _ => #[]
noncomputable def rest20 : Code := match L20 with | .block _ (.seq _ r) => r | _ => .skip
noncomputable def ops20b : Array Oper := match rest20 with | .seq _ (.region _ ops _) => ops | _ => #[]

section
variable (d : Int) (ci co : Nat) (cc : Array Bool)

noncomputable def head20 (u3 u4 u5 u6 u7 u8 u9 u10 u11 u12 u13 u14 u15 u16 u17 u18 u19 : Value) : Goroutine :=
  G ((baseD 20).at ⟨#[iv d, .chan (some ci), .chan (some co), u3, u4, u5, u6, u7, u8, u9, u10, u11, u12, u13, u14, u15, u16, u17, u18, u19], [dclose 54 0 cc co]⟩ [.code L20, .inLoop L20, .inBlock 0]) [bot Try.prog]
noncomputable def rcv20 (u3 u4 u5 u6 u7 u8 u9 u10 u11 u12 u13 u14 u15 u16 u17 u18 u19 : Value) (rest : List Nat) : Goroutine :=
  G ((baseD 20).at ⟨#[iv d, .chan (some ci), .chan (some co), u3, u4, u5, u6, u7, u8, u9, u10, u11, u12, u13, u14, u15, u16, u17, u18, u19], [dclose 54 0 cc co]⟩ [.inRegion ops20a rest, .code rest20, .inBlock 1, .inLoop L20, .inBlock 0]) [bot Try.prog]
noncomputable def snd20 (u3 u4 u5 u6 u7 u8 u9 u10 u11 u12 u13 u14 u15 u16 u17 u18 u19 : Value) (rest : List Nat) : Goroutine :=
  G ((baseD 20).at ⟨#[iv d, .chan (some ci), .chan (some co), u3, u4, u5, u6, u7, u8, u9, u10, u11, u12, u13, u14, u15, u16, u17, u18, u19], [dclose 54 0 cc co]⟩ [.inRegion ops20b rest, .inBlock 1, .inLoop L20, .inBlock 0]) [bot Try.prog]

set_option maxRecDepth 100000 in
theorem seg20_entry (Stop : Goroutine → World → Prop) (n₀ : Nat) (w : World) (next : ∀ (cc : Array Bool) (u3 u4 u5 u6 u7 u8 u9 u10 u11 u12 u13 u14 u15 u16 u17 u18 u19 : Value) w', Goes Try.prog false (RW []) (DW []) Stop n₀ (head20 d ci co cc u3 u4 u5 u6 u7 u8 u9 u10 u11 u12 u13 u14 u15 u16 u17 u18 u19) w') :
    Goes Try.prog false (RW []) (DW []) Stop (n₀ + 20) (G ((baseD 20).at ⟨#[iv d, .chan (some ci), .chan (some co), undef, undef, undef, undef, undef, undef, undef, undef, undef, undef, undef, undef, undef, undef, undef, undef, undef], []⟩ [.code body20]) [bot Try.prog]) w := by
  simp only [head20, L20, body20, Try.f20, Option.getD_some] at next ⊢
  (refine Goes.step rfl (fun _ h₁ => ?_); walk_rw; refine ⟨⟨rfl, by simp⟩, ?_⟩; clear h₁)
  (refine Goes.step rfl (fun _ h₁ => ?_); walk_rw; refine ⟨⟨rfl, by simp⟩, ?_⟩; clear h₁)
  (refine Goes.step rfl (fun w₁ h₁ => ?_); refine goes_oper_k rfl rfl (by decide) (fun K hK => ?_); go_simp; refine hK _ _ ⟨⟨rfl, fun e he => ?_⟩, ?_⟩; (focus (have hm := mem_listed he; (simp [go_sem, *] at hm))); (clear hK K h₁); (try walk_nrm))
  refine Goes.step rfl (fun w₁ h₁ => ?_)
  obtain ⟨cc, e⟩ := stepG_defer_close (P := Try.prog) (main := false) (w := w₁) (cs := [bot Try.prog]) (b := baseD 20) (ops := ops20d) (i := 1) (rest := []) (x := .tmp 8) (t := 54) (c := co) (o := { dst := none, op := .defer { callee := .builtin .close, args := #[.tmp 8], argTypes := #[54] }, type := 0, pos := "crew.go:53", after := #[{ on := 0, ground := .data }], guard := none }) (k := [.code (.block 0 (.loop L20))]) (a := ⟨#[iv d, .chan (some ci), .chan (some co), undef, undef, undef, undef, undef, .chan (some co), undef, undef, undef, undef, undef, undef, undef, undef, undef, undef, undef], []⟩) rfl rfl (by decide) rfl rfl
  simp only [ops20d, L20, body20, Try.f20, Option.getD_some] at e
  rw [e]
  simp only [goes_go]
  refine ⟨⟨rfl, by simp⟩, ?_⟩
  clear e h₁
  try walk_nrm
  (refine Goes.step rfl (fun _ h₁ => ?_); walk_rw; refine ⟨⟨rfl, by simp⟩, ?_⟩; clear h₁)
  (refine Goes.step rfl (fun _ h₁ => ?_); walk_rw; refine ⟨⟨rfl, by simp⟩, ?_⟩; clear h₁)
  (refine Goes.step rfl (fun _ h₁ => ?_); walk_rw; refine ⟨⟨rfl, by simp⟩, ?_⟩; clear h₁)
  exact (next cc _ _ _ _ _ _ _ _ _ _ _ _ _ _ _ _ _ _).mono (by omega)

set_option maxRecDepth 100000 in
/-- From the head to the receive. -/
theorem seg20_rcv (Stop : Goroutine → World → Prop) (n₀ : Nat) (u3 u4 u5 u6 u7 u8 u9 u10 u11 u12 u13 u14 u15 u16 u17 u18 u19 : Value) (w : World) (next : ∀ (u3 u4 u5 u6 u7 u8 u9 u11 u12 u13 u14 u15 u16 u17 u18 u19 : Value) w', Goes Try.prog false (RW []) (DW []) Stop n₀ (rcv20 d ci co cc u3 u4 u5 u6 u7 u8 u9 (.chan (some ci)) u11 u12 u13 u14 u15 u16 u17 u18 u19 [1, 2, 3, 4, 5, 6]) w') : Goes Try.prog false (RW []) (DW []) Stop (n₀ + 10) (head20 d ci co cc u3 u4 u5 u6 u7 u8 u9 u10 u11 u12 u13 u14 u15 u16 u17 u18 u19) w := by
  simp only [head20, rcv20, ops20a, rest20, L20, body20, Try.f20, Option.getD_some] at next ⊢
  (refine Goes.step rfl (fun _ h₁ => ?_); walk_rw; refine ⟨⟨rfl, by simp⟩, ?_⟩; clear h₁)
  (refine Goes.step rfl (fun _ h₁ => ?_); walk_rw; refine ⟨⟨rfl, by simp⟩, ?_⟩; clear h₁)
  (refine Goes.step rfl (fun _ h₁ => ?_); walk_rw; refine ⟨⟨rfl, by simp⟩, ?_⟩; clear h₁)
  (refine Goes.step rfl (fun w₁ h₁ => ?_); refine goes_oper_k rfl rfl (by decide) (fun K hK => ?_); go_simp; refine hK _ _ ⟨⟨rfl, fun e he => ?_⟩, ?_⟩; (focus (have hm := mem_listed he; (simp [go_sem, *] at hm))); (clear hK K h₁); (try walk_nrm))
  exact (next _ _ _ _ _ _ _ _ _ _ _ _ _ _ _ _ _).mono (by omega)

set_option maxRecDepth 100000 in
/-- From behind a receive that was handed a number to the send. -/
theorem seg20_snd (Stop : Goroutine → World → Prop) (n₀ : Nat) (x : Int) (u3 u4 u5 u6 u7 u8 u9 u10 u12 u13 u14 u15 u16 u17 u18 u19 : Value) (w : World) (next : ∀ (u3 u4 u5 u6 u7 u8 u9 u10 u11 u12 u13 u14 u15 u17 u18 : Value) w', Goes Try.prog false (RW []) (DW []) Stop n₀ (snd20 d ci co cc u3 u4 u5 u6 u7 u8 u9 u10 u11 u12 u13 u14 u15 (.chan (some co)) u17 u18 (addV d (iv x)) [4]) w') :
    Goes Try.prog false (RW []) (DW []) Stop (n₀ + 40) (rcv20 d ci co cc u3 u4 u5 u6 u7 u8 u9 u10 (.tuple #[iv x, .bool true]) u12 u13 u14 u15 u16 u17 u18 u19 [2, 3, 4, 5, 6]) w := by
  simp only [snd20, rcv20, ops20a, ops20b, rest20, L20, body20, Try.f20, Option.getD_some, addV] at next ⊢
  repeat (first | (refine Goes.step rfl (fun _ h₁ => ?_); walk_rw; refine ⟨⟨rfl, by simp⟩, ?_⟩; clear h₁) | (refine Goes.step rfl (fun w₁ h₁ => ?_); refine goes_oper_k rfl rfl (by decide) (fun K hK => ?_); go_simp; refine hK _ _ ⟨⟨rfl, fun e he => ?_⟩, ?_⟩; (focus (have hm := mem_listed he; (simp [go_sem, *] at hm))); (clear hK K h₁); (try walk_nrm)))
  (refine Goes.step rfl (fun _ h₁ => ?_); rw [stepG_cond (t := false) rfl]; simp only [goes_go, if_true, if_false, Bool.false_eq_true, ↓reduceIte]; refine ⟨⟨rfl, by simp⟩, ?_⟩; clear h₁)
  (refine Goes.step rfl (fun _ h₁ => ?_); walk_rw; refine ⟨⟨rfl, by simp⟩, ?_⟩; clear h₁)
  (refine Goes.step rfl (fun _ h₁ => ?_); walk_rw; refine ⟨⟨rfl, by simp⟩, ?_⟩; clear h₁)
  (refine Goes.step rfl (fun w₁ h₁ => ?_); refine goes_oper_k rfl rfl (by decide) (fun K hK => ?_); go_simp; refine hK _ _ ⟨⟨rfl, fun e he => ?_⟩, ?_⟩; (focus (have hm := mem_listed he; (simp [go_sem, *] at hm))); (clear hK K h₁); (try walk_nrm))
  (refine Goes.step rfl (fun w₁ h₁ => ?_); refine goes_oper_k rfl rfl (by decide) (fun K hK => ?_); go_simp; refine hK _ _ ⟨⟨rfl, fun e he => ?_⟩, ?_⟩; (focus (have hm := mem_listed he; (simp [go_sem, *] at hm))); (clear hK K h₁); (try walk_nrm))
  (refine Goes.step rfl (fun w₁ h₁ => ?_); refine goes_oper_k rfl rfl (by decide) (fun K hK => ?_); go_simp; refine hK _ _ ⟨⟨rfl, fun e he => ?_⟩, ?_⟩; (focus (have hm := mem_listed he; (simp [go_sem, *] at hm))); (clear hK K h₁); (try walk_nrm))
  (refine Goes.step rfl (fun w₁ h₁ => ?_); refine goes_oper_k rfl rfl (by decide) (fun K hK => ?_); go_simp; refine hK _ _ ⟨⟨rfl, fun e he => ?_⟩, ?_⟩; (focus (have hm := mem_listed he; (simp [go_sem, *] at hm))); (clear hK K h₁); (try walk_nrm))
  exact (next _ _ _ _ _ _ _ _ _ _ _ _ _ _ _ _).mono (by omega)

set_option maxRecDepth 100000 in
/-- From behind the send to the head. -/
theorem seg20_next (Stop : Goroutine → World → Prop) (n₀ : Nat) (u3 u4 u5 u6 u7 u8 u9 u10 u11 u12 u13 u14 u15 u16 u17 u18 u19 : Value) (w : World) (next : ∀ (u3 u4 u5 u6 u7 u8 u9 u10 u11 u12 u13 u14 u15 u16 u17 u18 u19 : Value) w', Goes Try.prog false (RW []) (DW []) Stop n₀ (head20 d ci co cc u3 u4 u5 u6 u7 u8 u9 u10 u11 u12 u13 u14 u15 u16 u17 u18 u19) w') : Goes Try.prog false (RW []) (DW []) Stop (n₀ + 10) (snd20 d ci co cc u3 u4 u5 u6 u7 u8 u9 u10 u11 u12 u13 u14 u15 u16 u17 u18 u19 []) w := by
  simp only [head20, snd20, ops20b, rest20, L20, body20, Try.f20, Option.getD_some] at next ⊢
  (refine Goes.step rfl (fun _ h₁ => ?_); walk_rw; refine ⟨⟨rfl, by simp⟩, ?_⟩; clear h₁)
  (refine Goes.step rfl (fun _ h₁ => ?_); walk_rw; refine ⟨⟨rfl, by simp⟩, ?_⟩; clear h₁)
  (refine Goes.step rfl (fun _ h₁ => ?_); walk_rw; refine ⟨⟨rfl, by simp⟩, ?_⟩; clear h₁)
  exact (next _ _ _ _ _ _ _ _ _ _ _ _ _ _ _ _ _ _).mono (by omega)

set_option maxRecDepth 100000 in
/-- From behind a receive that found the channel closed to the way out. -/
theorem seg20_cls (Stop : Goroutine → World → Prop) (n₀ : Nat) (u3 u4 u5 u6 u7 u8 u9 u10 u12 u13 u14 u15 u16 u17 u18 u19 : Value) (w : World)
    (next : ∀ (t : Array Value) (todo : List Item) w', Goes Try.prog false (RW []) (DW []) Stop n₀ (G { (baseD 20).at ⟨t, [dclose 54 0 cc co]⟩ todo with mode := .returning } [bot Try.prog]) w') :
    Goes Try.prog false (RW []) (DW []) Stop (n₀ + 40) (rcv20 d ci co cc u3 u4 u5 u6 u7 u8 u9 u10 (.tuple #[iv 0, .bool false]) u12 u13 u14 u15 u16 u17 u18 u19 [2, 3, 4, 5, 6]) w := by
  simp only [rcv20, ops20a, ops20b, rest20, L20, body20, Try.f20, Option.getD_some]
  repeat (first | (refine Goes.step rfl (fun _ h₁ => ?_); walk_rw; refine ⟨⟨rfl, by simp⟩, ?_⟩; clear h₁) | (refine Goes.step rfl (fun w₁ h₁ => ?_); refine goes_oper_k rfl rfl (by decide) (fun K hK => ?_); go_simp; refine hK _ _ ⟨⟨rfl, fun e he => ?_⟩, ?_⟩; (focus (have hm := mem_listed he; (simp [go_sem, *] at hm))); (clear hK K h₁); (try walk_nrm)))
  (refine Goes.step rfl (fun _ h₁ => ?_); rw [stepG_cond (t := true) rfl]; simp only [goes_go, if_true, if_false, Bool.false_eq_true, ↓reduceIte]; refine ⟨⟨rfl, by simp⟩, ?_⟩; clear h₁)
  refine Goes.step rfl (fun _ h₁ => ?_)
  rw [stepG_ret']
  simp only [goes_go]
  refine ⟨⟨rfl, by simp⟩, ?_⟩
  exact (next _ _ _).mono (by omega)


set_option maxRecDepth 100000 in
theorem at20_rcv (xs : List Value) (x : Int) (u3 u4 u5 u6 u7 u8 u9 u11 u12 u13 u14 u15 u16 u17 u18 u19 : Value) (w : World)
    (next : ∀ w₂, FollowW Try.prog zi [] (.snd co (addV d (iv x)) :: hnd ci co (addV d) xs) (rcv20 d ci co cc u3 u4 u5 u6 u7 u8 u9 (.chan (some ci)) (.tuple #[iv x, .bool true]) u12 u13 u14 u15 u16 u17 u18 u19 [2, 3, 4, 5, 6]) w₂) :
    stopW Try.prog zi [] (hnd ci co (addV d) (iv x :: xs)) (rcv20 d ci co cc u3 u4 u5 u6 u7 u8 u9 (.chan (some ci)) u11 u12 u13 u14 u15 u16 u17 u18 u19 [1, 2, 3, 4, 5, 6]) w := by
  have e : ∀ v, rcv20 d ci co cc u3 u4 u5 u6 u7 u8 u9 (.chan (some ci)) v u12 u13 u14 u15 u16 u17 u18 u19 [2, 3, 4, 5, 6] = G ((baseD 20).at (Act.put ⟨#[iv d, .chan (some ci), .chan (some co), u3, u4, u5, u6, u7, u8, u9, .chan (some ci), u11, u12, u13, u14, u15, u16, u17, u18, u19], [dclose 54 0 cc co]⟩ (some 11) v) [.inRegion ops20a [2, 3, 4, 5, 6], .code rest20, .inBlock 1, .inLoop L20, .inBlock 0]) [bot Try.prog] := fun v => rfl
  rw [e] at next
  refine atRcv_of (z := zi) (ops := ops20a) (o := { dst := some 11, op := .recv 34 (.tmp 10) true, type := 53, pos := "crew.go:55", after := #[{ on := 0, ground := .data }], guard := none }) rfl rfl (by decide) ?_ ?_ fun w₂ _ => next w₂
  · simp [go_sem, rcase, zi]
  · simp [go_sem]

set_option maxRecDepth 100000 in
theorem at20_eof (u3 u4 u5 u6 u7 u8 u9 u11 u12 u13 u14 u15 u16 u17 u18 u19 : Value) (w : World)
    (next : ∀ w₂, FollowW Try.prog zi [] [.cls co] (rcv20 d ci co cc u3 u4 u5 u6 u7 u8 u9 (.chan (some ci)) (.tuple #[iv 0, .bool false]) u12 u13 u14 u15 u16 u17 u18 u19 [2, 3, 4, 5, 6]) w₂) :
    stopW Try.prog zi [] (hnd ci co (addV d) []) (rcv20 d ci co cc u3 u4 u5 u6 u7 u8 u9 (.chan (some ci)) u11 u12 u13 u14 u15 u16 u17 u18 u19 [1, 2, 3, 4, 5, 6]) w := by
  have e : ∀ v, rcv20 d ci co cc u3 u4 u5 u6 u7 u8 u9 (.chan (some ci)) v u12 u13 u14 u15 u16 u17 u18 u19 [2, 3, 4, 5, 6] = G ((baseD 20).at (Act.put ⟨#[iv d, .chan (some ci), .chan (some co), u3, u4, u5, u6, u7, u8, u9, .chan (some ci), u11, u12, u13, u14, u15, u16, u17, u18, u19], [dclose 54 0 cc co]⟩ (some 11) v) [.inRegion ops20a [2, 3, 4, 5, 6], .code rest20, .inBlock 1, .inLoop L20, .inBlock 0]) [bot Try.prog] := fun v => rfl
  rw [e] at next
  refine atEof_of (z := zi) (ops := ops20a) (o := { dst := some 11, op := .recv 34 (.tmp 10) true, type := 53, pos := "crew.go:55", after := #[{ on := 0, ground := .data }], guard := none }) rfl rfl (by decide) ?_ ?_ fun w₂ _ => next w₂
  · simp [go_sem, rcase, zi]
  · simp [go_sem]

set_option maxRecDepth 100000 in
theorem at20_snd (ps : List Pr) (v : Value) (u3 u4 u5 u6 u7 u8 u9 u10 u11 u12 u13 u14 u15 u17 u18 : Value) (w : World)
    (next : ∀ w₂, FollowW Try.prog zi [] ps (snd20 d ci co cc u3 u4 u5 u6 u7 u8 u9 u10 u11 u12 u13 u14 u15 (.chan (some co)) u17 u18 v []) w₂) :
    stopW Try.prog zi [] (.snd co v :: ps) (snd20 d ci co cc u3 u4 u5 u6 u7 u8 u9 u10 u11 u12 u13 u14 u15 (.chan (some co)) u17 u18 v [4]) w :=
  atSnd_of (z := zi) (ops := ops20b) (o := { dst := none, op := .send (.tmp 16) (.tmp 19), type := 0, pos := "crew.go:59", after := #[{ on := 0, ground := .data }, { on := 3, ground := .data }], guard := none }) rfl rfl (by decide) rfl rfl rfl fun w₂ _ => next w₂

theorem end20 (t : Array Value) (todo : List Item) (w : World) : stopW Try.prog zi [] [.cls co] (G { (baseD 20).at ⟨t, [dclose 54 0 cc co]⟩ todo with mode := .returning } [bot Try.prog]) w := by
  show AtP Try.prog zi false (RW []) (EvW []) (FollowW Try.prog zi [] []) _ w (.cls co)
  exact atCls_of (a := ⟨t, [dclose 54 0 cc co]⟩) (t := 54) (ty := 0) (cc := cc) (f := 20) (fn := Try.f20) Try.func20 (by simp only [Try.f20]) (by simp only []) (by simp only [Try.f20])

/-- THE HAND's SCRIPT, from the loop's head. -/
theorem hand_from : ∀ (xs : List Int), ∃ n, ∀ (cc : Array Bool) (u3 u4 u5 u6 u7 u8 u9 u10 u11 u12 u13 u14 u15 u16 u17 u18 u19 : Value) (w : World), Goes Try.prog false (RW []) (DW []) (stopW Try.prog zi [] (hnd ci co (addV d) (xs.map iv))) n (head20 d ci co cc u3 u4 u5 u6 u7 u8 u9 u10 u11 u12 u13 u14 u15 u16 u17 u18 u19) w := by
  intro xs
  induction xs with
  | nil =>
    refine ⟨0 + 10, fun cc u3 u4 u5 u6 u7 u8 u9 u10 u11 u12 u13 u14 u15 u16 u17 u18 u19 w => seg20_rcv d ci co cc _ 0 u3 u4 u5 u6 u7 u8 u9 u10 u11 u12 u13 u14 u15 u16 u17 u18 u19 w fun u3 u4 u5 u6 u7 u8 u9 u11 u12 u13 u14 u15 u16 u17 u18 u19 w' => Goes.stop fun w₁ _ => at20_eof d ci co cc u3 u4 u5 u6 u7 u8 u9 u11 u12 u13 u14 u15 u16 u17 u18 u19 w₁ fun w₂ => ?_⟩
    exact followW_of (by simp) (seg20_cls d ci co cc (stopW Try.prog zi [] [.cls co]) 0 u3 u4 u5 u6 u7 u8 u9 (.chan (some ci)) u12 u13 u14 u15 u16 u17 u18 u19 w₂ fun t todo w' => Goes.stop fun w₁ _ => end20 co cc t todo w₁)
  | cons x xs ih =>
    obtain ⟨n, ih⟩ := ih
    refine ⟨0 + 10, fun cc u3 u4 u5 u6 u7 u8 u9 u10 u11 u12 u13 u14 u15 u16 u17 u18 u19 w => seg20_rcv d ci co cc _ 0 u3 u4 u5 u6 u7 u8 u9 u10 u11 u12 u13 u14 u15 u16 u17 u18 u19 w fun u3 u4 u5 u6 u7 u8 u9 u11 u12 u13 u14 u15 u16 u17 u18 u19 w' => Goes.stop fun w₁ _ => at20_rcv d ci co cc (xs.map iv) x u3 u4 u5 u6 u7 u8 u9 u11 u12 u13 u14 u15 u16 u17 u18 u19 w₁ fun w₂ => ?_⟩
    refine followW_of (by simp) (seg20_snd d ci co cc (stopW Try.prog zi [] (.snd co (addV d (iv x)) :: hnd ci co (addV d) (xs.map iv))) 0 x u3 u4 u5 u6 u7 u8 u9 (.chan (some ci)) u12 u13 u14 u15 u16 u17 u18 u19 w₂ fun u3 u4 u5 u6 u7 u8 u9 u10 u11 u12 u13 u14 u15 u17 u18 w' => Goes.stop fun w₁ _ => at20_snd d ci co cc _ _ u3 u4 u5 u6 u7 u8 u9 u10 u11 u12 u13 u14 u15 u17 u18 w₁ fun w₃ => ?_)
    exact followW_of (hnd_ne _ _ _ _) (seg20_next d ci co cc _ n u3 u4 u5 u6 u7 u8 u9 u10 u11 u12 u13 u14 u15 (.chan (some co)) u17 u18 (addV d (iv x)) w₃ fun u3 u4 u5 u6 u7 u8 u9 u10 u11 u12 u13 u14 u15 u16 u17 u18 u19 w' => ih cc u3 u4 u5 u6 u7 u8 u9 u10 u11 u12 u13 u14 u15 u16 u17 u18 u19 w')
end

/-- THE HAND, from its birth. -/
theorem hand_follows (d : Int) (ci co : Nat) (xs : List Int) (w : World) :
    FollowW Try.prog zi [] (hnd ci co (addV d) (xs.map iv)) (born Try.prog { target := .fn (.func 20) #[], args := #[iv d, .chan (some ci), .chan (some co)] }) w := by
  obtain ⟨n, h⟩ := hand_from d ci co xs
  refine followW_of (hnd_ne _ _ _ _) (n := n + 20 + 1) (Goes.step rfl fun w₁ _ => ?_)
  rw [stepG_born (fn := Try.f20) (c := body20) Try.func20 (by simp [Try.f20]) (by simp [Try.f20, body20])]
  simp only [goes_go]
  have e : (#[iv d, .chan (some ci), .chan (some co)] ++ #[]) ++ Array.replicate (Try.f20.ntmps - (#[iv d, .chan (some ci), .chan (some co)] ++ #[] : Array Value).size) undef = #[iv d, .chan (some ci), .chan (some co), undef, undef, undef, undef, undef, undef, undef, undef, undef, undef, undef, undef, undef, undef, undef, undef, undef] := by simp only [Try.f20]; rfl
  rw [e]
  refine ⟨⟨rfl, by simp⟩, ?_⟩
  exact seg20_entry d ci co _ n w₁ fun cc u3 u4 u5 u6 u7 u8 u9 u10 u11 u12 u13 u14 u15 u16 u17 u18 u19 w' => h cc u3 u4 u5 u6 u7 u8 u9 u10 u11 u12 u13 u14 u15 u16 u17 u18 u19 w'
end Go.Proofs.Ytplndihadjfliaa.Net
/-
  CREW: the walk of crew.Relay's first goroutine: it sends all values, and closes.
-/
set_option linter.unusedSimpArgs false
set_option linter.unusedVariables false
set_option maxHeartbeats 1000000
namespace Go.Proofs.Ytplndihadjfliaa.Net
open Go Go.Conc Go.ConcN Go.Proofs

noncomputable def body19 : Code := Try.f19.body.getD .skip
noncomputable def ops19d : Array Oper := match body19 with | .seq (.region _ ops _) _ => ops | _ => #[]
noncomputable def tail19 : Code := match body19 with | .seq _ r => r | _ => .skip
noncomputable def L19 : Code := match tail19 with | .seq _ (.block _ (.loop c)) => c | _ => .skip
noncomputable def B19 : Code := match L19 with | .seq _ (.seq _ (.seq (.block _ c) _)) => c | _ => .skip
noncomputable def ops19s : Array Oper := match B19 with | .seq _ (.region _ ops _) => ops | _ => #[]
noncomputable def R19 : Code := match L19 with | .seq _ (.seq _ (.seq _ r)) => r | _ => .skip

theorem evW_cell {T : List Nat} (a : Addr) (s : Bool) (h : a.block ∈ T) : EvW T ⟨.cell a, false, s⟩ := ⟨fun m h => (by cases h), .inr ⟨rfl, .inl ⟨a.block, rfl, h⟩⟩⟩

/-- What the source reads. -/
structure SrcK (T : List Nat) (bx cl : Nat) (c : Nat) (a0 : Option Addr) (n cap : Nat) (zs : List Int) (w : World) : Prop where
  xs : w.cell? ⟨bx, 0, none⟩ = some (.slice a0 n cap)
  ch : w.cell? ⟨cl, 0, none⟩ = some (.chan (some c))
  el : ∀ j ad, j < n → a0 = some ad → w.cell? (ad.add j) = some (.int .i64 (zs[j]?.getD 0))
  bb : bx ∈ T
  cb : cl ∈ T
  eb : ∀ ad, a0 = some ad → 0 < n → ad.block ∈ T

theorem SrcK.rely {T : List Nat} {bx cl c : Nat} {a0 : Option Addr} {n cap : Nat} {zs : List Int} {w w₁ : World} (h : SrcK T bx cl c a0 n cap zs w) (r : RW T w w₁) : SrcK T bx cl c a0 n cap zs w₁ :=
  ⟨(World.cell?_of_block (r bx h.bb)).trans h.xs, (World.cell?_of_block (r cl h.cb)).trans h.ch, fun j ad hj ha => (World.cell?_of_block (by rw [addBlock]; exact r ad.block (h.eb ad ha (by omega)))).trans (h.el j ad hj ha), h.bb, h.cb, h.eb⟩

section
variable (T : List Nat) (bx cl c : Nat) (a0 : Option Addr) (n cap : Nat) (zs : List Int) (cc : Array Bool)

noncomputable def head19 (k : Nat) (u2 u3 u4 u8 u9 u10 u11 u12 u13 : Value) : Goroutine :=
  G ((baseD 19).at ⟨#[.pointer (some ⟨cl, 0, none⟩), .pointer (some ⟨bx, 0, none⟩), u2, u3, u4, .slice a0 n cap, .int .i64 n, .int .i64 k, u8, u9, u10, u11, u12, u13], [dclose 33 0 cc c]⟩ [.code L19, .inLoop L19, .inBlock 0]) [bot Try.prog]
noncomputable def snd19 (k : Nat) (u2 u3 u4 u8 u9 u10 u13 : Value) (rest : List Nat) : Goroutine :=
  G ((baseD 19).at ⟨#[.pointer (some ⟨cl, 0, none⟩), .pointer (some ⟨bx, 0, none⟩), u2, u3, u4, .slice a0 n cap, .int .i64 n, .int .i64 k, u8, u9, u10, .chan (some c), iv (zs[k]?.getD 0), u13], [dclose 33 0 cc c]⟩ [.inRegion ops19s rest, .inBlock 1, .code R19, .inLoop L19, .inBlock 0]) [bot Try.prog]

set_option maxRecDepth 100000 in
theorem seg19_entry (Stop : Goroutine → World → Prop) (n₀ : Nat) (w : World) (hF : SrcK T bx cl c a0 n cap zs w) (next : ∀ (cc : Array Bool) (u2 u3 u4 u8 u9 u10 u11 u12 u13 : Value) w', SrcK T bx cl c a0 n cap zs w' → Goes Try.prog false (RW T) (DW T) Stop n₀ (head19 bx cl c a0 n cap cc 0 u2 u3 u4 u8 u9 u10 u11 u12 u13) w') :
    Goes Try.prog false (RW T) (DW T) Stop (n₀ + 20) (G ((baseD 19).at ⟨#[.pointer (some ⟨cl, 0, none⟩), .pointer (some ⟨bx, 0, none⟩), undef, undef, undef, undef, undef, undef, undef, undef, undef, undef, undef, undef], []⟩ [.code body19]) [bot Try.prog]) w := by
  simp only [head19, L19, tail19, body19, Try.f19, Option.getD_some] at next ⊢
  (refine Goes.step rfl (fun _ h₁ => ?_); walk_rw; refine ⟨⟨rfl, by simp⟩, ?_⟩; replace hF := hF.rely h₁; clear h₁)
  (refine Goes.step rfl (fun _ h₁ => ?_); walk_rw; refine ⟨⟨rfl, by simp⟩, ?_⟩; replace hF := hF.rely h₁; clear h₁)
  (refine Goes.step rfl (fun w₁ h₁ => ?_); replace hF := hF.rely h₁; clear h₁; refine goes_oper_k rfl rfl (by decide) (fun K hK => ?_); have hx := hF.xs; have hch := hF.ch; have hel := hF.el; go_simp; refine hK _ _ ⟨⟨rfl, fun e he => ?_⟩, ?_⟩; (focus (have hm := mem_listed he; (simp [go_sem, *] at hm); (try (subst hm; exact evW_cell _ _ (by first | exact hF.bb | exact hF.cb | (rw [addBlock]; exact hF.eb _ rfl (by omega))))))); (clear hK K hx hch hel); (try walk_nrm))
  refine Goes.step rfl (fun w₁ h₁ => ?_)
  obtain ⟨cc, e⟩ := stepG_defer_close (P := Try.prog) (main := false) (w := w₁) (cs := [bot Try.prog]) (b := baseD 19) (ops := ops19d) (i := 1) (rest := []) (x := .tmp 4) (t := 33) (c := c) (o := { dst := none, op := .defer { callee := .builtin .close, args := #[.tmp 4], argTypes := #[33] }, type := 0, pos := "crew.go:70", after := #[{ on := 0, ground := .data }], guard := none }) (k := [.code tail19]) (a := ⟨#[.pointer (some ⟨cl, 0, none⟩), .pointer (some ⟨bx, 0, none⟩), undef, undef, .chan (some c), undef, undef, undef, undef, undef, undef, undef, undef, undef], []⟩) rfl rfl (by decide) rfl rfl
  simp only [ops19d, tail19, body19, Try.f19, Option.getD_some] at e
  rw [e]
  simp only [goes_go]
  refine ⟨⟨rfl, by simp⟩, ?_⟩
  replace hF := hF.rely h₁
  clear e h₁
  try walk_nrm
  (refine Goes.step rfl (fun _ h₁ => ?_); walk_rw; refine ⟨⟨rfl, by simp⟩, ?_⟩; replace hF := hF.rely h₁; clear h₁)
  (refine Goes.step rfl (fun _ h₁ => ?_); walk_rw; refine ⟨⟨rfl, by simp⟩, ?_⟩; replace hF := hF.rely h₁; clear h₁)
  (refine Goes.step rfl (fun _ h₁ => ?_); walk_rw; refine ⟨⟨rfl, by simp⟩, ?_⟩; replace hF := hF.rely h₁; clear h₁)
  (refine Goes.step rfl (fun w₁ h₁ => ?_); replace hF := hF.rely h₁; clear h₁; refine goes_oper_k rfl rfl (by decide) (fun K hK => ?_); have hx := hF.xs; have hch := hF.ch; have hel := hF.el; go_simp; refine hK _ _ ⟨⟨rfl, fun e he => ?_⟩, ?_⟩; (focus (have hm := mem_listed he; (simp [go_sem, *] at hm); (try (subst hm; exact evW_cell _ _ (by first | exact hF.bb | exact hF.cb | (rw [addBlock]; exact hF.eb _ rfl (by omega))))))); (clear hK K hx hch hel); (try walk_nrm))
  (refine Goes.step rfl (fun w₁ h₁ => ?_); replace hF := hF.rely h₁; clear h₁; refine goes_oper_k rfl rfl (by decide) (fun K hK => ?_); have hx := hF.xs; have hch := hF.ch; have hel := hF.el; go_simp; refine hK _ _ ⟨⟨rfl, fun e he => ?_⟩, ?_⟩; (focus (have hm := mem_listed he; (simp [go_sem, *] at hm); (try (subst hm; exact evW_cell _ _ (by first | exact hF.bb | exact hF.cb | (rw [addBlock]; exact hF.eb _ rfl (by omega))))))); (clear hK K hx hch hel); (try walk_nrm))
  (refine Goes.step rfl (fun w₁ h₁ => ?_); replace hF := hF.rely h₁; clear h₁; refine goes_oper_k rfl rfl (by decide) (fun K hK => ?_); have hx := hF.xs; have hch := hF.ch; have hel := hF.el; go_simp; refine hK _ _ ⟨⟨rfl, fun e he => ?_⟩, ?_⟩; (focus (have hm := mem_listed he; (simp [go_sem, *] at hm); (try (subst hm; exact evW_cell _ _ (by first | exact hF.bb | exact hF.cb | (rw [addBlock]; exact hF.eb _ rfl (by omega))))))); (clear hK K hx hch hel); (try walk_nrm))
  (refine Goes.step rfl (fun _ h₁ => ?_); walk_rw; refine ⟨⟨rfl, by simp⟩, ?_⟩; replace hF := hF.rely h₁; clear h₁)
  (refine Goes.step rfl (fun _ h₁ => ?_); walk_rw; refine ⟨⟨rfl, by simp⟩, ?_⟩; replace hF := hF.rely h₁; clear h₁)
  (refine Goes.step rfl (fun _ h₁ => ?_); walk_rw; refine ⟨⟨rfl, by simp⟩, ?_⟩; replace hF := hF.rely h₁; clear h₁)
  exact (next cc _ _ _ _ _ _ _ _ _ _ hF).mono (by omega)

set_option maxRecDepth 100000 in
/-- From the head to the send. -/
theorem seg19_snd (Stop : Goroutine → World → Prop) (n₀ k : Nat) (hk : k < n) (hnil : ∃ ad, a0 = some ad) (u2 u3 u4 u8 u9 u10 u11 u12 u13 : Value) (w : World) (hF : SrcK T bx cl c a0 n cap zs w)
    (next : ∀ (u2 u3 u4 u8 u9 u10 u13 : Value) w', SrcK T bx cl c a0 n cap zs w' → Goes Try.prog false (RW T) (DW T) Stop n₀ (snd19 bx cl c a0 n cap zs cc k u2 u3 u4 u8 u9 u10 u13 [2]) w') : Goes Try.prog false (RW T) (DW T) Stop (n₀ + 30) (head19 bx cl c a0 n cap cc k u2 u3 u4 u8 u9 u10 u11 u12 u13) w := by
  obtain ⟨ad, rfl⟩ := hnil
  simp only [head19, snd19, ops19s, B19, R19, L19, tail19, body19, Try.f19, Option.getD_some] at next ⊢
  repeat (first | (refine Goes.step rfl (fun _ h₁ => ?_); walk_rw; refine ⟨⟨rfl, by simp⟩, ?_⟩; replace hF := hF.rely h₁; clear h₁) | (refine Goes.step rfl (fun w₁ h₁ => ?_); replace hF := hF.rely h₁; clear h₁; refine goes_oper_k rfl rfl (by decide) (fun K hK => ?_); have hx := hF.xs; have hch := hF.ch; have hel := hF.el; go_simp; refine hK _ _ ⟨⟨rfl, fun e he => ?_⟩, ?_⟩; (focus (have hm := mem_listed he; (simp [go_sem, *] at hm); (try (subst hm; exact evW_cell _ _ (by first | exact hF.bb | exact hF.cb | (rw [addBlock]; exact hF.eb _ rfl (by omega))))))); (clear hK K hx hch hel); (try walk_nrm)))
  (refine Goes.step rfl (fun _ h₁ => ?_); rw [stepG_cond (t := true) rfl]; simp only [goes_go, if_true, if_false, Bool.false_eq_true, ↓reduceIte]; refine ⟨⟨rfl, by simp⟩, ?_⟩; replace hF := hF.rely h₁; clear h₁)
  repeat (first | (refine Goes.step rfl (fun _ h₁ => ?_); walk_rw; refine ⟨⟨rfl, by simp⟩, ?_⟩; replace hF := hF.rely h₁; clear h₁) | (refine Goes.step rfl (fun w₁ h₁ => ?_); replace hF := hF.rely h₁; clear h₁; refine goes_oper_k rfl rfl (by decide) (fun K hK => ?_); have hx := hF.xs; have hch := hF.ch; have hel := hF.el; go_simp; refine hK _ _ ⟨⟨rfl, fun e he => ?_⟩, ?_⟩; (focus (have hm := mem_listed he; (simp [go_sem, *] at hm); (try (subst hm; exact evW_cell _ _ (by first | exact hF.bb | exact hF.cb | (rw [addBlock]; exact hF.eb _ rfl (by omega))))))); (clear hK K hx hch hel); (try walk_nrm)))
  refine Goes.mono (n := n₀) ?_ (by omega)
  exact next _ _ _ _ _ _ _ _ hF

set_option maxRecDepth 100000 in
/-- From behind the send to the head. -/
theorem seg19_next (Stop : Goroutine → World → Prop) (n₀ k : Nat) (hk : k < n) (hn : n ≤ 9223372036854775807) (u2 u3 u4 u8 u9 u10 u13 : Value) (w : World) (hF : SrcK T bx cl c a0 n cap zs w)
    (next : ∀ (u2 u3 u4 u8 u9 u10 u11 u12 u13 : Value) w', SrcK T bx cl c a0 n cap zs w' → Goes Try.prog false (RW T) (DW T) Stop n₀ (head19 bx cl c a0 n cap cc (k + 1) u2 u3 u4 u8 u9 u10 u11 u12 u13) w') : Goes Try.prog false (RW T) (DW T) Stop (n₀ + 10) (snd19 bx cl c a0 n cap zs cc k u2 u3 u4 u8 u9 u10 u13 []) w := by
  have hwr : IntKind.i64.wrap ((k : Int) + 1) = ((k + 1 : Nat) : Int) := by rw [IntKind.wrap_i64]; omega
  simp only [head19, snd19, ops19s, B19, R19, L19, tail19, body19, Try.f19, Option.getD_some] at next ⊢
  (refine Goes.step rfl (fun _ h₁ => ?_); walk_rw; refine ⟨⟨rfl, by simp⟩, ?_⟩; replace hF := hF.rely h₁; clear h₁)
  (refine Goes.step rfl (fun _ h₁ => ?_); walk_rw; refine ⟨⟨rfl, by simp⟩, ?_⟩; replace hF := hF.rely h₁; clear h₁)
  (refine Goes.step rfl (fun _ h₁ => ?_); walk_rw; refine ⟨⟨rfl, by simp⟩, ?_⟩; replace hF := hF.rely h₁; clear h₁)
  (refine Goes.step rfl (fun w₁ h₁ => ?_); replace hF := hF.rely h₁; clear h₁; refine goes_oper_k rfl rfl (by decide) (fun K hK => ?_); have hx := hF.xs; have hch := hF.ch; have hel := hF.el; go_simp; refine hK _ _ ⟨⟨rfl, fun e he => ?_⟩, ?_⟩; (focus (have hm := mem_listed he; (simp [go_sem, *] at hm); (try (subst hm; exact evW_cell _ _ (by first | exact hF.bb | exact hF.cb | (rw [addBlock]; exact hF.eb _ rfl (by omega))))))); (clear hK K hx hch hel); (try walk_nrm))
  (refine Goes.step rfl (fun w₁ h₁ => ?_); replace hF := hF.rely h₁; clear h₁; refine goes_oper_k rfl rfl (by decide) (fun K hK => ?_); have hx := hF.xs; have hch := hF.ch; have hel := hF.el; go_simp; refine hK _ _ ⟨⟨rfl, fun e he => ?_⟩, ?_⟩; (focus (have hm := mem_listed he; (simp [go_sem, *] at hm); (try (subst hm; exact evW_cell _ _ (by first | exact hF.bb | exact hF.cb | (rw [addBlock]; exact hF.eb _ rfl (by omega))))))); (clear hK K hx hch hel); (try walk_nrm))
  (refine Goes.step rfl (fun _ h₁ => ?_); walk_rw; refine ⟨⟨rfl, by simp⟩, ?_⟩; replace hF := hF.rely h₁; clear h₁)
  (refine Goes.step rfl (fun _ h₁ => ?_); walk_rw; refine ⟨⟨rfl, by simp⟩, ?_⟩; replace hF := hF.rely h₁; clear h₁)
  exact (next _ _ _ _ _ _ _ _ _ _ hF).mono (by omega)

set_option maxRecDepth 100000 in
/-- From the head, all sent, to the way out. -/
theorem seg19_cls (Stop : Goroutine → World → Prop) (n₀ : Nat) (u2 u3 u4 u8 u9 u10 u11 u12 u13 : Value) (w : World) (hF : SrcK T bx cl c a0 n cap zs w)
    (next : ∀ (t : Array Value) (todo : List Item) w', Goes Try.prog false (RW T) (DW T) Stop n₀ (G { (baseD 19).at ⟨t, [dclose 33 0 cc c]⟩ todo with mode := .returning } [bot Try.prog]) w') : Goes Try.prog false (RW T) (DW T) Stop (n₀ + 12) (head19 bx cl c a0 n cap cc n u2 u3 u4 u8 u9 u10 u11 u12 u13) w := by
  simp only [head19, L19, tail19, body19, Try.f19, Option.getD_some]
  repeat (first | (refine Goes.step rfl (fun _ h₁ => ?_); walk_rw; refine ⟨⟨rfl, by simp⟩, ?_⟩; replace hF := hF.rely h₁; clear h₁) | (refine Goes.step rfl (fun w₁ h₁ => ?_); replace hF := hF.rely h₁; clear h₁; refine goes_oper_k rfl rfl (by decide) (fun K hK => ?_); have hx := hF.xs; have hch := hF.ch; have hel := hF.el; go_simp; refine hK _ _ ⟨⟨rfl, fun e he => ?_⟩, ?_⟩; (focus (have hm := mem_listed he; (simp [go_sem, *] at hm); (try (subst hm; exact evW_cell _ _ (by first | exact hF.bb | exact hF.cb | (rw [addBlock]; exact hF.eb _ rfl (by omega))))))); (clear hK K hx hch hel); (try walk_nrm)))
  (refine Goes.step rfl (fun _ h₁ => ?_); rw [stepG_cond (t := false) rfl]; simp only [goes_go, if_true, if_false, Bool.false_eq_true, ↓reduceIte]; refine ⟨⟨rfl, by simp⟩, ?_⟩; replace hF := hF.rely h₁; clear h₁)
  (refine Goes.step rfl (fun _ h₁ => ?_); apply goes_exit; (focus rfl); refine ⟨⟨rfl, by simp⟩, ?_⟩; replace hF := hF.rely h₁; clear h₁)
  refine Goes.step rfl (fun _ h₁ => ?_)
  rw [stepG_end]
  simp only [goes_go]
  refine ⟨⟨rfl, by simp⟩, ?_⟩
  exact (next _ _ _).mono (by omega)

set_option maxRecDepth 100000 in
theorem at19_snd (ps : List Pr) (k : Nat) (u2 u3 u4 u8 u9 u10 u13 : Value) (w : World)
    (next : ∀ w₂, RW T w w₂ → FollowW Try.prog zi T ps (snd19 bx cl c a0 n cap zs cc k u2 u3 u4 u8 u9 u10 u13 []) w₂) :
    stopW Try.prog zi T (.snd c (iv (zs[k]?.getD 0)) :: ps) (snd19 bx cl c a0 n cap zs cc k u2 u3 u4 u8 u9 u10 u13 [2]) w :=
  atSnd_of (z := zi) (ops := ops19s) (o := { dst := none, op := .send (.tmp 11) (.tmp 12), type := 0, pos := "crew.go:72", after := #[{ on := 0, ground := .data }, { on := 1, ground := .data }], guard := none }) rfl rfl (by decide) rfl rfl rfl fun w₂ h₂ => next w₂ h₂

theorem end19 (t : Array Value) (todo : List Item) (w : World) : stopW Try.prog zi T [.cls c] (G { (baseD 19).at ⟨t, [dclose 33 0 cc c]⟩ todo with mode := .returning } [bot Try.prog]) w := by
  show AtP Try.prog zi false (RW T) (EvW T) (FollowW Try.prog zi T []) _ w (.cls c)
  exact atCls_of (a := ⟨t, [dclose 33 0 cc c]⟩) (t := 33) (ty := 0) (cc := cc) (f := 19) (fn := Try.f19) Try.func19 (by simp only [Try.f19]) (by simp only []) (by simp only [Try.f19])

theorem src_ne' (c : Nat) (vs : List Value) : src c vs ≠ [] := by simp [src]

/-- THE SOURCE's SCRIPT, from the loop's head: k sent. -/
theorem src_from (hn : n ≤ 9223372036854775807) (hz : zs.length = n) (hnil : 0 < n → ∃ ad, a0 = some ad) : ∀ (m k : Nat), k + m = n → ∃ n', ∀ (cc : Array Bool) (u2 u3 u4 u8 u9 u10 u11 u12 u13 : Value) (w : World), SrcK T bx cl c a0 n cap zs w →
    Goes Try.prog false (RW T) (DW T) (stopW Try.prog zi T (src c ((zs.drop k).map iv))) n' (head19 bx cl c a0 n cap cc k u2 u3 u4 u8 u9 u10 u11 u12 u13) w := by
  intro m
  induction m with
  | zero =>
    intro k hk
    obtain rfl : k = n := by omega
    have e : src c ((zs.drop k).map iv) = [.cls c] := by simp [List.drop_eq_nil_of_le (show zs.length ≤ k by omega), src]
    rw [e]
    exact ⟨0 + 12, fun cc u2 u3 u4 u8 u9 u10 u11 u12 u13 w hF => seg19_cls T bx cl c a0 k cap zs cc _ 0 u2 u3 u4 u8 u9 u10 u11 u12 u13 w hF fun t todo w' => Goes.stop fun w₁ _ => end19 T c cc t todo w₁⟩
  | succ m ih =>
    intro k hk
    obtain ⟨n₁, h₁⟩ := ih (k + 1) (by omega)
    have e : src c ((zs.drop k).map iv) = .snd c (iv (zs[k]?.getD 0)) :: src c ((zs.drop (k + 1)).map iv) := by
      rw [List.drop_eq_getElem_cons (by omega), List.map_cons, List.getElem?_eq_getElem (by omega)]; simp [src]
    rw [e]
    refine ⟨0 + 30, fun cc u2 u3 u4 u8 u9 u10 u11 u12 u13 w hF => seg19_snd T bx cl c a0 n cap zs cc _ 0 k (by omega) (hnil (by omega)) u2 u3 u4 u8 u9 u10 u11 u12 u13 w hF fun u2 u3 u4 u8 u9 u10 u13 w' hF => Goes.stop fun w₁ r₁ => at19_snd T bx cl c a0 n cap zs cc _ k u2 u3 u4 u8 u9 u10 u13 w₁ fun w₂ r₂ => ?_⟩
    exact followW_of (src_ne' _ _) (seg19_next T bx cl c a0 n cap zs cc _ n₁ k (by omega) hn u2 u3 u4 u8 u9 u10 u13 w₂ ((hF.rely r₁).rely r₂) fun u2 u3 u4 u8 u9 u10 u11 u12 u13 w' hF => h₁ cc u2 u3 u4 u8 u9 u10 u11 u12 u13 w' hF)
end

/-- THE SOURCE, from its birth. -/
theorem src_follows (T : List Nat) (bx cl c : Nat) (a0 : Option Addr) (n cap : Nat) (zs : List Int) (hn : n ≤ 9223372036854775807) (hz : zs.length = n) (hnil : 0 < n → ∃ ad, a0 = some ad) (w : World) (hF : SrcK T bx cl c a0 n cap zs w) :
    FollowW Try.prog zi T (src c (zs.map iv)) (born Try.prog { target := .fn (.func 19) #[.pointer (some ⟨cl, 0, none⟩), .pointer (some ⟨bx, 0, none⟩)], args := #[] }) w := by
  obtain ⟨m, h⟩ := src_from T bx cl c a0 n cap zs hn hz hnil n 0 (by omega)
  refine followW_of (src_ne' _ _) (n := m + 20 + 1) (Goes.step rfl fun w₁ r₁ => ?_)
  rw [stepG_born (fn := Try.f19) (c := body19) Try.func19 (by simp [Try.f19]) (by simp [Try.f19, body19])]
  simp only [goes_go]
  have e : (#[] ++ #[.pointer (some ⟨cl, 0, none⟩), .pointer (some ⟨bx, 0, none⟩)]) ++ Array.replicate (Try.f19.ntmps - (#[] ++ #[.pointer (some ⟨cl, 0, none⟩), .pointer (some ⟨bx, 0, none⟩)] : Array Value).size) undef = #[.pointer (some ⟨cl, 0, none⟩), .pointer (some ⟨bx, 0, none⟩), undef, undef, undef, undef, undef, undef, undef, undef, undef, undef, undef, undef] := by simp only [Try.f19]; rfl
  rw [e]
  refine ⟨⟨rfl, by simp⟩, ?_⟩
  exact seg19_entry T bx cl c a0 n cap zs _ m w₁ (hF.rely r₁) fun cc u2 u3 u4 u8 u9 u10 u11 u12 u13 w' hF => h cc u2 u3 u4 u8 u9 u10 u11 u12 u13 w' hF
end Go.Proofs.Ytplndihadjfliaa.Net
