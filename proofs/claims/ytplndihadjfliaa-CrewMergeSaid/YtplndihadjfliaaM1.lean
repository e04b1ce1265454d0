/-
  A NET OF GOROUTINES WITH select AND sync.WaitGroup: what is asked of an invariant of abstract nets; where each goroutine stands.
-/
import Derived.Test.YtplndihadjfliaaM0
import Derived.Conc.CrowdBase
set_option linter.unusedSimpArgs false
set_option linter.unusedVariables false
namespace Go.Proofs.Ytplndihadjfliaa.Mix
open Go Go.Conc Go.ConcN
open Go.ConcR (KK wgBlock WgAt stA smA rd wr mk)

/-- An act that hands on v at c. -/
def Gives (c : Nat) (v : Value) (p : Pr) : Prop := p = .snd c v ∨ ∃ s k, p = .sel c v s k
/-- An act that never waits. -/
def Pr.free : Pr → Bool
  | .cls _ | .say _ | .inc | .dec _ | .ldl | .clr | .rls | .wld _ | .cas _ _ | .wl4 => true
  | _ => false
/-- Who stands there may be parked. -/
def Blk (a : Abs) : Pr → Prop
  | .snd _ _ | .rcv _ _ => True
  | .eof c => a.shut c = false
  | .sel _ _ s _ => a.shut s = false
  | .acs => a.sm = 0
  | _ => False

def Abs.Live (a : Abs) (i : Nat) : Prop :=
  (i = 0 ∧ a.sc i = []) ∨ (∃ p al, a.sc i = .pr p :: al ∧ p.free = true) ∨ (∃ T cs k al, a.sc i = .fork T cs k :: al) ∨ (∃ al, a.sc i = .mkg :: al ∨ ∃ c, a.sc i = .mkc c :: al) ∨ (∃ c al, a.sc i = .pr (.eof c) :: al ∧ a.shut c = true) ∨
  (∃ c v s k al, a.sc i = .pr (.sel c v s k) :: al ∧ a.shut s = true) ∨ (∃ al, a.sc i = .pr .acs :: al ∧ a.sm = 1) ∨
  (∃ p c v al j bs, j < a.n ∧ j ≠ i ∧ a.sc i = .pr p :: al ∧ Gives c v p ∧ a.sc j = .pr (.rcv c v) :: bs)

/-- WHAT IS ASKED OF AN INVARIANT OF ABSTRACT NETS. -/
structure Law (K : Abs → Prop) (rank : Abs → Nat) : Prop where
  pos : ∀ a, K a → 0 < a.n
  pass : ∀ a i j p c v v' al bs, K a → i < a.n → j < a.n → a.sc i = .pr p :: al → Gives c v p → a.sc j = .pr (.rcv c v') :: bs → i ≠ j ∧ v = v' ∧ K (a.pass i j al bs) ∧ rank (a.pass i j al bs) < rank a
  noEof : ∀ a i j p c v al bs, K a → i < a.n → j < a.n → a.sc i = .pr p :: al → Gives c v p → a.sc j ≠ .pr (.eof c) :: bs
  giveOpen : ∀ a i p c v al, K a → i < a.n → a.sc i = .pr p :: al → Gives c v p → c ∈ a.ck ∧ a.shut c = false
  rcvOpen : ∀ a i c v al, K a → i < a.n → a.sc i = .pr (.rcv c v) :: al → c ∈ a.ck ∧ a.shut c = false
  eofIn : ∀ a i c al, K a → i < a.n → a.sc i = .pr (.eof c) :: al → c ∈ a.ck
  giveOne : ∀ a i j p p' c v v' al bs, K a → i < a.n → j < a.n → a.sc i = .pr p :: al → Gives c v p → a.sc j = .pr p' :: bs → Gives c v' p' → i = j
  rcvOne : ∀ a i j c v v' al bs, K a → i < a.n → j < a.n → a.sc i = .pr (.rcv c v) :: al → a.sc j = .pr (.rcv c v') :: bs → i = j
  rcvEof : ∀ a i j c v al bs, K a → i < a.n → j < a.n → a.sc i = .pr (.rcv c v) :: al → a.sc j ≠ .pr (.eof c) :: bs
  sel : ∀ a i c v s k al, K a → i < a.n → a.sc i = .pr (.sel c v s k) :: al → s ∈ a.ck ∧ (∀ j q bs u, j < a.n → a.sc j = .pr q :: bs → ¬ Gives s u q) ∧
    (a.shut s = true → (∀ j v' bs, j < a.n → a.sc j ≠ .pr (.rcv c v') :: bs) ∧ K (a.to i (al.drop k)) ∧ rank (a.to i (al.drop k)) < rank a)
  eof : ∀ a i c al, K a → i < a.n → a.sc i = .pr (.eof c) :: al → a.shut c = true → a.df i = 0 ∧ K (a.seen i c al) ∧ rank (a.seen i c al) < rank a
  cls : ∀ a i c al, K a → i < a.n → a.sc i = .pr (.cls c) :: al → c ∈ a.ck ∧ a.shut c = false ∧ a.df i = 0 ∧ (∀ j v bs, j < a.n → a.sc j ≠ .pr (.rcv c v) :: bs) ∧ (∀ j q bs v, j < a.n → a.sc j = .pr q :: bs → ¬ Gives c v q) ∧
    K (a.close i c al) ∧ rank (a.close i c al) < rank a
  fork : ∀ a i T cs kid al, K a → i < a.n → a.sc i = .fork T cs kid :: al → i = 0 ∧ kid ≠ [] ∧ (∀ c ∈ cs, a.shut c = false) ∧ a.df 0 = 0 ∧ K (a.fork cs kid al) ∧ rank (a.fork cs kid al) < rank a
  mkg : ∀ a i al, K a → i < a.n → a.sc i = .mkg :: al → i = 0 ∧ a.on = false ∧ K (a.mkg al) ∧ rank (a.mkg al) < rank a
  mkc : ∀ a i c al, K a → i < a.n → a.sc i = .mkc c :: al → i = 0 ∧ a.shut c = false ∧ K (a.mkc c al) ∧ rank (a.mkc c al) < rank a
  say : ∀ a i m al, K a → i < a.n → a.sc i = .pr (.say m) :: al → (m = .disable ∨ m = .enable ∨ (m = .releaseMerge (stA a.wg) ∧ i ≠ 0 ∧ a.df i = 0) ∨ (m = .acquire (stA a.wg) ∧ i = 0 ∧ a.df 0 = 0)) ∧ K (a.say i m al) ∧ rank (a.say i m al) < rank a
  inc : ∀ a i al, K a → i < a.n → a.sc i = .pr .inc :: al → i = 0 ∧ a.on = true ∧ a.v < 2147483647 ∧ a.wt = 0 ∧ a.sm = 0 ∧ K (a.grp i al (a.v + 1) 0 0) ∧ rank (a.grp i al (a.v + 1) 0 0) < rank a
  dec : ∀ a i k al, K a → i < a.n → a.sc i = .pr (.dec k) :: al → 0 < a.df i ∧ a.on = true ∧ a.sm = 0 ∧ a.wt ≤ 1 ∧ ∃ v, a.v = v + 1 ∧ v < 2147483647 ∧ ((v = 0 ∧ a.wt = 1) → K (a.grp i al 0 1 0) ∧ rank (a.grp i al 0 1 0) < rank a) ∧
    (¬ (v = 0 ∧ a.wt = 1) → K (a.grp i (al.drop k) v a.wt 0) ∧ rank (a.grp i (al.drop k) v a.wt 0) < rank a)
  ldl : ∀ a i al, K a → i < a.n → a.sc i = .pr .ldl :: al → 0 < a.df i ∧ a.on = true ∧ a.v = 0 ∧ a.wt = 1 ∧ a.sm = 0 ∧ K (a.to i al) ∧ rank (a.to i al) < rank a
  clr : ∀ a i al, K a → i < a.n → a.sc i = .pr .clr :: al → 0 < a.df i ∧ a.on = true ∧ a.v = 0 ∧ a.wt = 1 ∧ a.sm = 0 ∧ K (a.grp i al 0 0 0) ∧ rank (a.grp i al 0 0 0) < rank a
  rls : ∀ a i al, K a → i < a.n → a.sc i = .pr .rls :: al → a.on = true ∧ a.v = 0 ∧ a.wt = 0 ∧ a.sm = 0 ∧ K (a.grp i al 0 0 1) ∧ rank (a.grp i al 0 0 1) < rank a
  wld : ∀ a i k al, K a → i < a.n → a.sc i = .pr (.wld k) :: al → i = 0 ∧ a.on = true ∧ a.v ≤ k ∧ a.v < 2147483648 ∧ a.wt = 0 ∧ a.sm = 0 ∧ (a.v = 0 → K (a.to i al) ∧ rank (a.to i al) < rank a) ∧
    (a.v ≠ 0 → K (a.to i (Do.next3 (.wld k) al a.v)) ∧ rank (a.to i (Do.next3 (.wld k) al a.v)) < rank a)
  cas : ∀ a i vs k al, K a → i < a.n → a.sc i = .pr (.cas vs k) :: al → i = 0 ∧ a.on = true ∧ a.v ≤ vs ∧ a.wt = 0 ∧ a.sm = 0 ∧ (a.v = vs → K (a.grp i (Do.next (.cas vs k) al) a.v 1 0) ∧ rank (a.grp i (Do.next (.cas vs k) al) a.v 1 0) < rank a) ∧
    (a.v ≠ vs → K (a.to i (Do.next2 (.cas vs k) al)) ∧ rank (a.to i (Do.next2 (.cas vs k) al)) < rank a)
  acs : ∀ a i al, K a → i < a.n → a.sc i = .pr .acs :: al → i = 0 ∧ a.on = true ∧ a.sm ≤ 1 ∧ (a.sm = 1 → a.v = 0 ∧ a.wt = 0 ∧ K (a.grp i al 0 0 0) ∧ rank (a.grp i al 0 0 0) < rank a)
  wl4 : ∀ a i al, K a → i < a.n → a.sc i = .pr .wl4 :: al → i = 0 ∧ a.on = true ∧ a.v = 0 ∧ a.wt = 0 ∧ a.sm = 0 ∧ K (a.to i al) ∧ rank (a.to i al) < rank a
  quit : ∀ a i d, K a → i < a.n → i ≠ 0 → a.sc i = [] → K { a with df := put a.df i d } ∧ rank { a with df := put a.df i d } = rank a
  unrel : ∀ a i p al, K a → i < a.n → a.sc i = .pr p :: al → p.quiet = false → a.rel i = false
  live : ∀ a, K a → ∃ i, i < a.n ∧ a.Live i
  fin : ∀ a, K a → a.sc 0 = [] → a.df 0 = 0
  last : ∀ a, K a → a.sc 0 = [] → ∀ j, j < a.n → j ≠ 0 → a.sc j = [] ∧ j ∈ a.kn 0

/-! ### where each stands -/
section
variable (P : Program) (z : Nat → Value) (ty : TypeId × Bool) (Post : List Nat → List Nat → List Nat → Goroutine → World → Prop) (Wg : Nat) (T ch G : List Nat) (Ts : Nat → List Nat)

def RR (i : Nat) : World → World → Prop := if i = 0 then RC ty Wg ch else RW ty Wg (Ts i)
def EE (i : Nat) : Nat → Event → Prop := if i = 0 then EvM T G else fun _ => EvW (Ts i)
def DD (i : Nat) (p : Pr) : World → World → Array Event → Prop := if i = 0 then DM ty Wg T ch G else DWp (Ts i) p
def NN (i d : Nat) (al : List Do) (g : Goroutine) (w : World) : Prop :=
  if i = 0 then FollowM P z ty Wg Post al T ch G g w else ∃ ps, al = ps.map .pr ∧ FollowW P z ty Wg (Ts i) d ps g w
def At (i d : Nat) (p : Pr) (al : List Do) (g : Goroutine) (w : World) : Prop :=
  AtP P z ty Wg (i == 0) (RR ty Wg ch Ts i) (EE T G Ts i) (NN P z ty Post Wg T ch G Ts i (dfP p d) (Do.next p al)) (NN P z ty Post Wg T ch G Ts i (dfP p d) (Do.next2 p al)) (fun v => NN P z ty Post Wg T ch G Ts i (dfP p d) (Do.next3 p al v)) g w p

def Park (i d : Nat) (al : List Do) (g : Goroutine) (w : World) : Pr → Prop
  | .snd c v => ∃ (g₂ : Goroutine) (z' : Value), g = parked g₂ #[scase c v z'] .send ∧ ∀ w₂, RR ty Wg ch Ts i w w₂ → NN P z ty Post Wg T ch G Ts i d al (Go.Conc.served g₂ undef) w₂
  | .rcv c v => ∃ (g₀ : Goroutine), g = parked (core g₀) #[rcase c (z c)] (.recv true) ∧ ∀ w₂, RR ty Wg ch Ts i w w₂ → NN P z ty Post Wg T ch G Ts i d al (Go.Conc.served (core g₀) (.tuple #[v, .bool true])) w₂
  | .eof c => ∃ (g₀ : Goroutine), g = parked (core g₀) #[rcase c (z c)] (.recv true) ∧ ∀ w₁, RR ty Wg ch Ts i w w₁ → At P z ty Post Wg T ch G Ts i d (.eof c) al g₀ w₁
  | .sel c v s k => ∃ (g₀ : Goroutine) (z' zs : Value), g = parked (core g₀) (selc c v z' s zs) .select ∧ (∀ w₂, RR ty Wg ch Ts i w w₂ → NN P z ty Post Wg T ch G Ts i d al ((core g₀).finishComm P (selc c v z' s zs) .select 0 undef false) w₂) ∧
      ∀ w₁, RR ty Wg ch Ts i w w₁ → At P z ty Post Wg T ch G Ts i d (.sel c v s k) al g₀ w₁
  | .acs => ∃ (g₀ : Goroutine), g = { g₀ with status := .blocked } ∧ g₀.status = .running ∧ g₀.offers = none ∧ ∀ w₁, RR ty Wg ch Ts i w w₁ → At P z ty Post Wg T ch G Ts i d .acs al g₀ w₁
  | _ => False

inductive Sit (i d : Nat) : List Do → Option Nat → Goroutine → World → Prop
  | ret {n : Nat} {g : Goroutine} {w : World} : i = 0 → Goes P true (RC ty Wg ch) (DM ty Wg T ch G) (AtEnd Post T ch G) n g w → Sit i d [] (some n) g w
  | fork {T' cs : List Nat} {kid : List Pr} {al : List Do} {n : Nat} {g : Goroutine} {w : World} : i = 0 → Goes P true (RC ty Wg ch) (DM ty Wg T ch G) (AtFork P z ty Wg T ch G T' cs kid (FollowM P z ty Wg Post al (T' ++ T) (cs ++ ch) G)) n g w →
      Sit i d (.fork T' cs kid :: al) (some n) g w
  | mkg {al : List Do} {n : Nat} {g : Goroutine} {w : World} : i = 0 → Goes P true (RC ty Wg ch) (DM ty Wg T ch G) (AtMkg P ty Wg (FollowM P z ty Wg Post al T (Wg :: ch) (Wg :: G))) n g w → Sit i d (.mkg :: al) (some n) g w
  | mkc {c : Nat} {al : List Do} {n : Nat} {g : Goroutine} {w : World} : i = 0 → Goes P true (RC ty Wg ch) (DM ty Wg T ch G) (AtMkc P c (FollowM P z ty Wg Post al T (c :: ch) G)) n g w → Sit i d (.mkc c :: al) (some n) g w
  | quit {n : Nat} {g : Goroutine} {w : World} : i ≠ 0 → QuitsD P n d g → Sit i d [] (some n) g w
  | run {p : Pr} {al : List Do} {n : Nat} {g : Goroutine} {w : World} : Goes P (i == 0) (RR ty Wg ch Ts i) (DD ty Wg T ch G Ts i p) (At P z ty Post Wg T ch G Ts i d p al) n g w → Sit i d (.pr p :: al) (some n) g w
  | park {p : Pr} {al : List Do} {g : Goroutine} {w : World} : Park P z ty Post Wg T ch G Ts i d al g w p → Sit i d (.pr p :: al) none g w

end

section
variable {P : Program} {z : Nat → Value} {ty : TypeId × Bool} {Post : List Nat → List Nat → List Nat → Goroutine → World → Prop} {Wg : Nat} {T ch G : List Nat} {Ts : Nat → List Nat} {i d : Nat} {al : List Do} {f : Option Nat} {g : Goroutine} {w w₁ : World}

theorem RR.refl (i : Nat) (w : World) : RR ty Wg ch Ts i w w := by
  unfold RR; split
  · exact RC.refl _ _
  · exact RW.refl _ _
theorem RR.trans {a b c : World} (h : RR ty Wg ch Ts i a b) (h' : RR ty Wg ch Ts i b c) : RR ty Wg ch Ts i a c := by
  unfold RR at *
  split <;> rename_i e <;> simp only [e, if_true, if_false] at h h'
  · exact RC.trans h h'
  · exact RW.trans h h'
theorem RR.at (i : Nat) (w : World) (d : Nat) : RR ty Wg ch Ts i w (w.at d) := by
  unfold RR; split
  · exact RC.at _ _ _
  · exact RW.at _ _ _
theorem map_pr_inj : ∀ (l l' : List Pr), l.map Do.pr = l'.map Do.pr → l = l' := by
  intro l
  induction l with
  | nil => intro l' h; cases l' with
    | nil => rfl
    | cons _ _ => cases h
  | cons x l ih => intro l' h; cases l' with
    | nil => cases h
    | cons y l' => simp only [List.map_cons, List.cons.injEq, Do.pr.injEq] at h; rw [h.1, ih l' h.2]

theorem NN_w (e : i ≠ 0) (ps : List Pr) : NN P z ty Post Wg T ch G Ts i d (ps.map .pr) = FollowW P z ty Wg (Ts i) d ps := by
  funext g w
  simp only [NN, e, if_false, eq_iff_iff]
  constructor
  · rintro ⟨qs, hq, hf⟩
    rw [map_pr_inj _ _ hq]; exact hf
  · intro hf; exact ⟨ps, rfl, hf⟩

theorem sit_of_NN (h : NN P z ty Post Wg T ch G Ts i d al g w) : ∃ n, Sit P z ty Post Wg T ch G Ts i d al (some n) g w := by
  unfold NN at h
  split at h
  · rename_i e
    subst e
    match al, h with
    | [], h => rw [FollowM] at h; obtain ⟨n, h⟩ := h; exact ⟨n, .ret rfl h⟩
    | .pr p :: al, h =>
      rw [FollowM] at h
      obtain ⟨n, h⟩ := h
      exact ⟨n, .run h⟩
    | .fork T' cs kid :: al, h => rw [FollowM] at h; obtain ⟨n, h⟩ := h; exact ⟨n, .fork rfl h⟩
    | .mkg :: al, h => rw [FollowM] at h; obtain ⟨n, h⟩ := h; exact ⟨n, .mkg rfl h⟩
    | .mkc c :: al, h => rw [FollowM] at h; obtain ⟨n, h⟩ := h; exact ⟨n, .mkc rfl h⟩
  · rename_i e
    obtain ⟨ps, rfl, h⟩ := h
    have hb : (i == 0) = false := by simpa using e
    match ps, h with
    | [], h => rw [FollowW] at h; obtain ⟨n, h⟩ := h; exact ⟨n, .quit e h⟩
    | p :: ps, h =>
      rw [FollowW] at h
      obtain ⟨n, h⟩ := h
      refine ⟨n, .run ?_⟩
      have e1 : RR ty Wg ch Ts i = RW ty Wg (Ts i) := by simp [RR, e]
      have e2 : DD ty Wg T ch G Ts i p = DWp (Ts i) p := by simp [DD, e]
      have e3 : EE T G Ts i = fun _ => EvW (Ts i) := by simp [EE, e]
      unfold At
      rw [hb, e1, e2, e3, Do.next_map, Do.next2_map]
      simp only [Do.next3_map, NN_w e]
      exact h

theorem Park.rely {p : Pr} (h : Park P z ty Post Wg T ch G Ts i d al g w p) (hr : RR ty Wg ch Ts i w w₁) : Park P z ty Post Wg T ch G Ts i d al g w₁ p := by
  cases p with
  | snd c v => obtain ⟨g₂, z', e, hn⟩ := h; exact ⟨g₂, z', e, fun w₂ h₂ => hn w₂ (hr.trans h₂)⟩
  | rcv c v => obtain ⟨g₀, e, hn⟩ := h; exact ⟨g₀, e, fun w₂ h₂ => hn w₂ (hr.trans h₂)⟩
  | eof c => obtain ⟨g₀, e, hn⟩ := h; exact ⟨g₀, e, fun w₂ h₂ => hn w₂ (hr.trans h₂)⟩
  | sel c v s k => obtain ⟨g₀, z', zs, e, hn, hn'⟩ := h; exact ⟨g₀, z', zs, e, fun w₂ h₂ => hn w₂ (hr.trans h₂), fun w₂ h₂ => hn' w₂ (hr.trans h₂)⟩
  | acs => obtain ⟨g₀, e, h1, h2, hn⟩ := h; exact ⟨g₀, e, h1, h2, fun w₂ h₂ => hn w₂ (hr.trans h₂)⟩
  | _ => exact h.elim

theorem Sit.rely (h : Sit P z ty Post Wg T ch G Ts i d al f g w) (hr : RR ty Wg ch Ts i w w₁) : Sit P z ty Post Wg T ch G Ts i d al f g w₁ := by
  cases h with
  | ret e h => subst e; exact .ret rfl (Goes.rely (R := RC ty Wg ch) (fun _ _ _ h h' => RC.trans h h') h hr)
  | fork e h => subst e; exact .fork rfl (Goes.rely (R := RC ty Wg ch) (fun _ _ _ h h' => RC.trans h h') h hr)
  | mkg e h => subst e; exact .mkg rfl (Goes.rely (R := RC ty Wg ch) (fun _ _ _ h h' => RC.trans h h') h hr)
  | mkc e h => subst e; exact .mkc rfl (Goes.rely (R := RC ty Wg ch) (fun _ _ _ h h' => RC.trans h h') h hr)
  | quit e h => exact .quit e h
  | run h => exact .run (Goes.rely (R := RR ty Wg ch Ts i) (fun _ _ _ h h' => RR.trans h h') h hr)
  | park h => exact .park (h.rely hr)

theorem AtP.running {main : Bool} {R : World → World → Prop} {Ev : Nat → Event → Prop} {N1 N2 : Goroutine → World → Prop} {N3 : Nat → Goroutine → World → Prop} {p : Pr} (h : AtP P z ty Wg main R Ev N1 N2 N3 g w p) : g.status = .running := by
  cases p <;> exact h.1

theorem Sit.status (h : Sit P z ty Post Wg T ch G Ts i d al f g w) : (g.status = .running ∧ ∃ n, f = some n) ∨ (g.status = .finished ∧ i ≠ 0 ∧ al = [] ∧ ∃ n, f = some n) ∨ (g.status = .blocked ∧ f = none) := by
  cases h with
  | ret e h => exact .inl ⟨h.running (fun _ _ x => x.1) w (RC.refl _ _), _, rfl⟩
  | fork e h => exact .inl ⟨h.running (fun _ _ x => x.1) w (RC.refl _ _), _, rfl⟩
  | mkg e h => exact .inl ⟨h.running (fun _ _ x => x.1) w (RC.refl _ _), _, rfl⟩
  | mkc e h => exact .inl ⟨h.running (fun _ _ x => x.1) w (RC.refl _ _), _, rfl⟩
  | quit e h =>
    rcases h.status with h | h
    · exact .inl ⟨h, _, rfl⟩
    · exact .inr (.inl ⟨h, e, rfl, _, rfl⟩)
  | run h => exact .inl ⟨h.running (fun _ _ x => AtP.running x) w (RR.refl _ _), _, rfl⟩
  | park h =>
    rename_i p al
    cases p with
    | snd c v => obtain ⟨_, _, rfl, _⟩ := h; exact .inr (.inr ⟨rfl, rfl⟩)
    | rcv c v => obtain ⟨_, rfl, _⟩ := h; exact .inr (.inr ⟨rfl, rfl⟩)
    | eof c => obtain ⟨_, rfl, _⟩ := h; exact .inr (.inr ⟨rfl, rfl⟩)
    | sel c v s k => obtain ⟨_, _, _, rfl, _⟩ := h; exact .inr (.inr ⟨rfl, rfl⟩)
    | acs => obtain ⟨_, rfl, _⟩ := h; exact .inr (.inr ⟨rfl, rfl⟩)
    | _ => exact h.elim

/-- A worker's situation hangs on what it reads alone. -/
theorem Sit.other {T2 ch2 G2 : List Nat} {Ts2 : Nat → List Nat} (k0 : i ≠ 0) (e : Ts2 i = Ts i) (h : Sit P z ty Post Wg T ch G Ts i d al f g w) : Sit P z ty Post Wg T2 ch2 G2 Ts2 i d al f g w := by
  have e1 : RR ty Wg ch2 Ts2 i = RR ty Wg ch Ts i := by simp [RR, k0, e]
  have e2 : ∀ p, DD ty Wg T2 ch2 G2 Ts2 i p = DD ty Wg T ch G Ts i p := by simp [DD, k0, e]
  have e3 : EE T2 G2 Ts2 i = EE T G Ts i := by simp [EE, k0, e]
  have e4 : ∀ d al, NN P z ty Post Wg T2 ch2 G2 Ts2 i d al = NN P z ty Post Wg T ch G Ts i d al := by intro d al; funext g w; simp [NN, k0, e]
  have e5 : ∀ p al, At P z ty Post Wg T2 ch2 G2 Ts2 i d p al = At P z ty Post Wg T ch G Ts i d p al := by intro p al; funext g w; simp only [At, e1, e3, e4]
  cases h with
  | ret h _ => exact absurd h k0
  | fork h _ => exact absurd h k0
  | mkg h _ => exact absurd h k0
  | mkc h _ => exact absurd h k0
  | quit h h' => exact .quit h h'
  | run h => refine .run ?_; rw [e1, e2, e5]; exact h
  | park h =>
    rename_i p al
    refine .park ?_
    cases p with
    | snd c v => simpa only [Park, e1, e4] using h
    | rcv c v => simpa only [Park, e1, e4] using h
    | eof c => simpa only [Park, e1, e5] using h
    | sel c v s k => simpa only [Park, e1, e4, e5] using h
    | acs => simpa only [Park, e1, e5] using h
    | _ => exact h.elim

end
end Go.Proofs.Ytplndihadjfliaa.Mix
/-
  A NET OF GOROUTINES WITH select AND sync.WaitGroup: the invariant; somebody can run; a step of one's own.
-/
set_option linter.unusedSimpArgs false
set_option linter.unusedVariables false
namespace Go.Proofs.Ytplndihadjfliaa.Mix
open Go Go.Conc Go.ConcN
open Go.ConcR (KK wgBlock WgAt stA smA rd wr mk)

def fu : Option Nat → Nat
  | none => 0
  | some n => n + 1
/-- A worker's steps weigh twice (each may let goroutine 0 try again at the semaphore). -/
def wf (i : Nat) (o : Option Nat) : Nat := if i = 0 then fu o else 2 * fu o

section
variable (P : Program) (z : Nat → Value) (ty : TypeId × Bool) (Post : List Nat → List Nat → List Nat → Goroutine → World → Prop) (K : Abs → Prop)

structure Net (a : Abs) (f : Nat → Option Nat) (T : List Nat) (Ts : Nat → List Nat) (gs : Array Goroutine) (w : World) (t : Trace) : Prop where
  k : K a
  size : gs.size = a.n
  sit : ∀ i, i < a.n → ∃ g, gs[i]? = some g ∧ Sit P z ty Post a.wg T a.ch a.G Ts i (a.df i) (a.sc i) (f i) g w
  chan : ∀ c, c ∈ a.ck → ∃ s r tm, w.heap[c]? = some (.chan 0 #[] (a.shut c) s r tm)
  grp : a.on = true → WgAt ty.1 a.wg w ((a.v : Int) * KK + (a.wt : Int)) (a.sm : Int) ∧ a.wg ∈ a.ch ∧ a.wg ∈ a.G
  ckch : ∀ c, c ∈ a.ck → c ∈ a.ch
  sub : ∀ i, i ≠ 0 → i < a.n → ∀ b ∈ Ts i, b ∈ T
  apart : ∀ c, c ∈ a.ch → c ∉ T
  offG : ∀ k b, b ∈ Ts k → b ∉ a.G
  tsz : ∀ b, b ∈ T ∨ b ∈ a.ch ∨ b ∈ a.G → b < w.heap.size
  tsk : ∀ k b, b ∈ Ts k → b < w.heap.size
  opn : ∀ i p al, i < a.n → f i = none → a.sc i = .pr p :: al → Blk a p
  noMeet : ∀ i j p c v v' al bs, i < a.n → j < a.n → f i = none → f j = none → a.sc i = .pr p :: al → Gives c v p → a.sc j = .pr (.rcv c v') :: bs → False
  tr : Tr Ts a w.heap.size t

def mu (rank : Abs → Nat) (a : Abs) (f : Nat → Option Nat) : Nat × Nat := (rank a, sumTo a.n fun i => wf i (f i))

inductive Inv (rank : Abs → Nat) : Nat × Nat → Machine → Trace → Prop
  | mk {a : Abs} {f : Nat → Option Nat} {T : List Nat} {Ts : Nat → List Nat} {gs : Array Goroutine} {w : World} {t : Trace} (sl : Option (Nat × Nat)) : Net P z ty Post K a f T Ts gs w t → Inv rank (mu rank a f) (crowd gs w sl) t
end

theorem get_map_set {α : Type} (gs : Array α) (F : α → α) (i j : Nat) (x y : α) (h : gs[j]? = some y) : ((gs.map F).setIfInBounds i x)[j]? = some (if j = i then x else F y) := by
  obtain ⟨hlt, rfl⟩ := Array.getElem?_eq_some_iff.1 h
  by_cases hij : i = j
  · subst hij; simp [hlt]
  · have : j ≠ i := fun e => hij e.symm
    rw [Array.getElem?_setIfInBounds_ne hij, if_neg this]; simp [hlt]

theorem sumTo_mono {F G : Nat → Nat} : ∀ {n : Nat}, (∀ k, k < n → F k ≤ G k) → sumTo n F ≤ sumTo n G
  | 0, _ => Nat.le_refl _
  | n + 1, h => by
    have := sumTo_mono (n := n) fun k hk => h k (by omega)
    have := h n (by omega)
    simp only [sumTo]; omega

section
variable {P : Program} {z : Nat → Value} {ty : TypeId × Bool} {Post : List Nat → List Nat → List Nat → Goroutine → World → Prop} {K : Abs → Prop} {rank : Abs → Nat} {a : Abs} {f : Nat → Option Nat} {T : List Nat} {Ts : Nat → List Nat} {gs : Array Goroutine} {w : World} {t : Trace}

theorem lt_rank {a' : Abs} {f' : Nat → Option Nat} (h : rank a' < rank a) : Lt2 (mu rank a' f') (mu rank a f) := .left _ _ h

/-- An own step of goroutine i's lowers the measure, though goroutine 0 be let try again. -/
theorem lt_own {f' : Nat → Option Nat} {i n n' : Nat} (hi : i < a.n) (hf : f i = some n) (hf' : f' i = some n') (hn : n' < n)
    (ho : ∀ k, k ≠ i → k < a.n → f' k = f k ∨ (k = 0 ∧ f k = none ∧ f' k = some 0)) : Lt2 (mu rank a f') (mu rank a f) := by
  refine .right _ ?_
  show sumTo a.n (fun i => wf i (f' i)) < sumTo a.n (fun i => wf i (f i))
  by_cases i0 : i = 0
  · subst i0
    have h := sumTo_upd (j := a.n) f (some n') (fun o => o.elim 0 (· + 1)) hi
    have e : ∀ k, k < a.n → wf k (f' k) ≤ upd (fun k => wf k (f k)) 0 (wf 0 (some n')) k := by
      intro k hk
      by_cases hk0 : k = 0
      · subst hk0; simp [upd, hf']
      · rcases ho k hk0 hk with h | ⟨h, _⟩
        · simp [upd, hk0, h]
        · exact absurd h hk0
    have h1 := sumTo_mono e
    have h2 := sumTo_upd (j := a.n) (fun k => wf k (f k)) (wf 0 (some n')) id hi
    simp only [id] at h2
    have : wf 0 (f 0) = n + 1 := by simp [wf, hf, fu]
    have h3 : wf 0 (some n') = n' + 1 := by simp [wf, fu]
    have e4 : (fun a_1 => upd (fun k => wf k (f k)) 0 (wf 0 (some n')) a_1) = upd (fun k => wf k (f k)) 0 (wf 0 (some n')) := rfl
    rw [e4] at h2
    omega
  · have h0 : 0 < a.n := by omega
    let F1 := upd (fun k => wf k (f k)) i (wf i (some n'))
    have e : ∀ k, k < a.n → wf k (f' k) ≤ upd F1 0 (F1 0 + 1) k := by
      intro k hk
      by_cases hki : k = i
      · subst hki; simp [upd, F1, i0, hf']
      · rcases ho k hki hk with h | ⟨h, h', h''⟩
        · by_cases hk0 : k = 0
          · subst hk0; simp [upd, F1, hki, h]
          · simp [upd, F1, hki, hk0, h]
        · subst h; simp [upd, F1, hki, h'', wf, fu]
    have h1 := sumTo_mono e
    have h2 := sumTo_upd (j := a.n) (fun k => wf k (f k)) (wf i (some n')) id hi
    have h3 := sumTo_upd (j := a.n) F1 (F1 0 + 1) id h0
    simp only [id] at h2 h3
    have h4 : wf i (f i) = 2 * (n + 1) := by simp [wf, i0, hf, fu]
    have h5 : wf i (some n') = 2 * (n' + 1) := by simp [wf, i0, fu]
    have e4 : (fun a_1 => upd (fun k => wf k (f k)) i (wf i (some n')) a_1) = F1 := rfl
    have e5 : (fun a_1 => upd F1 0 (F1 0 + 1) a_1) = upd F1 0 (F1 0 + 1) := rfl
    have e6 : (fun a => F1 a) = F1 := rfl
    rw [e4] at h2
    rw [e5, e6] at h3
    omega

theorem Sit.run_of {Wg : Nat} {ch G : List Nat} {i n d : Nat} {al : List Do} {g : Goroutine} (h : Sit P z ty Post Wg T ch G Ts i d al (some n) g w) (hi : i = 0 ∨ al ≠ []) : g.status = .running := by
  rcases h.status with ⟨h, _⟩ | ⟨_, h0, h1, _⟩ | ⟨_, h⟩
  · exact h
  · rcases hi with hi | hi
    · exact absurd hi h0
    · exact absurd h1 hi
  · cases h

theorem blk_free {p : Pr} (h : p.free = true) : ¬ Blk a p := by cases p <;> simp_all [Pr.free, Blk]

/-- Somebody can run. -/
theorem Net.someone (L : Law K rank) (N : Net P z ty Post K a f T Ts gs w t) : ∃ (i : Nat) (g : Goroutine), gs[i]? = some g ∧ g.status = .running := by
  obtain ⟨i, hi, hl⟩ := L.live a N.k
  have go : ∀ j n, j < a.n → f j = some n → (j = 0 ∨ a.sc j ≠ []) → ∃ (i : Nat) (g : Goroutine), gs[i]? = some g ∧ g.status = .running := by
    intro j n hj hf hor
    obtain ⟨g, hg, hs⟩ := N.sit j hj
    rw [hf] at hs
    exact ⟨j, g, hg, hs.run_of hor⟩
  cases hf : f i with
  | some n =>
    refine go i n hi hf ?_
    rcases hl with ⟨h, _⟩ | ⟨_, _, h, _⟩ | ⟨_, _, _, _, h⟩ | ⟨_, h | ⟨_, h⟩⟩ | ⟨_, _, h, _⟩ | ⟨_, _, _, _, _, h, _⟩ | ⟨_, h, _⟩ | ⟨_, _, _, _, _, _, _, _, h, _⟩
    · exact .inl h
    all_goals exact .inr (by rw [h]; simp)
  | none =>
    obtain ⟨g, hg, hs⟩ := N.sit i hi
    rw [hf] at hs
    rcases hl with ⟨_, h⟩ | ⟨p, al, h, hp⟩ | ⟨T', cs, kid, al, h⟩ | ⟨al, h | ⟨c, h⟩⟩ | ⟨c, al, h, hc⟩ | ⟨c, v, s, k, al, h, hc⟩ | ⟨al, h, hc⟩ | ⟨p, c, v, al, j, bs, hj, _, h, hg', h'⟩
    · rw [h] at hs; cases hs
    · have := N.opn i p al hi hf h
      exact (blk_free hp this).elim
    · rw [h] at hs; cases hs
    · rw [h] at hs; cases hs
    · rw [h] at hs; cases hs
    · have := N.opn i _ al hi hf h
      simp only [Blk] at this
      rw [hc] at this; cases this
    · have := N.opn i _ al hi hf h
      simp only [Blk] at this
      rw [hc] at this; cases this
    · have := N.opn i _ al hi hf h
      simp only [Blk] at this
      omega
    · cases hfj : f j with
      | some n => exact go j n hj hfj (.inr (by rw [h']; simp))
      | none => exact (N.noMeet i j p c v v al bs hi hj hf hfj h hg' h').elim

theorem Net.awake (N : Net P z ty Post K a f T Ts gs w t) : ∀ g ∈ gs, awake g := by
  intro g hg
  obtain ⟨i, hi, rfl⟩ := Array.mem_iff_getElem.1 hg
  obtain ⟨g', hg', hs⟩ := N.sit i (by rw [← N.size]; exact hi)
  have : gs[i] = g' := by rw [Array.getElem?_eq_getElem hi] at hg'; exact Option.some.inj hg'
  rw [this]
  refine awake_of ?_
  rcases hs.status with ⟨h, _⟩ | ⟨h, _⟩ | ⟨h, _⟩
  · exact .inl h
  · exact .inr (.inr h)
  · exact .inr (.inl h)

/-- Whoever has been let try again stands where it stood. -/
theorem at_again {Wg : Nat} {ch G : List Nat} {i d : Nat} {g : Goroutine} {cs : Array CommCase} {sh : CommShape} {p : Pr} {al : List Do} {w : World} (hp : (∃ c, p = .eof c) ∨ ∃ c v s k, p = .sel c v s k) (h : At P z ty Post Wg T ch G Ts i d p al g w) :
    At P z ty Post Wg T ch G Ts i d p al { parked (core g) cs sh with status := .running } w := by
  have e : stepG P (i == 0) { parked (core g) cs sh with status := .running } w = stepG P (i == 0) g w := stepG_same rfl rfl rfl w
  rcases hp with ⟨c, rfl⟩ | ⟨c, v, s, k, rfl⟩
  · obtain ⟨_, es, h1, h2, h3⟩ := h
    exact ⟨rfl, es, by rw [e]; exact h1, h2, h3⟩
  · obtain ⟨_, z', zs, es, h1, h2, h3, h4⟩ := h
    exact ⟨rfl, z', zs, es, by rw [e]; exact h1, h2, h3, h4⟩

theorem woken_if {g g' x : Goroutine} {w' : World} (h : mayWake P g = true ∧ (g'.status = .running ∨ g'.status = .finished)) : woken P g g' w' x = x.again w' := by
  unfold woken
  rcases h.2 with h' | h' <;> simp [h.1, h']

theorem woken_or (g g' x : Goroutine) (w' : World) : woken P g g' w' x = x.again w' ∨ (woken P g g' w' x = x ∧ ¬ (mayWake P g = true ∧ (g'.status = .running ∨ g'.status = .finished))) := by
  by_cases h : mayWake P g = true ∧ (g'.status = .running ∨ g'.status = .finished)
  · exact .inl (woken_if h)
  · unfold woken
    split
    · exact .inl rfl
    · exact .inr ⟨rfl, h⟩

/-- WHAT BECOMES OF ANOTHER where goroutine i makes a step that brings the abstract net to a'. -/
theorem Net.others (L : Law K rank) (N : Net P z ty Post K a f T Ts gs w t) {a' : Abs} (hK : K a') (hn : a'.n = a.n) {k : Nat} (hsc : a'.sc k = a.sc k) {w' : World}
    (hch : ∀ c, c ∈ a'.ck → ∃ s r tm, w'.heap[c]? = some (.chan 0 #[] (a'.shut c) s r tm)) (hR : RR ty a.wg a.ch Ts k w w') (hk : k < a.n) {x : Goroutine} (hx : gs[k]? = some x) (g g' : Goroutine)
    (hw : ∀ p al, f k = none → a.sc k = .pr p :: al → Blk a' p ∨ (mayWake P g = true ∧ (g'.status = .running ∨ g'.status = .finished))) :
    ∃ fk, Sit P z ty Post a.wg T a.ch a.G Ts k (a.df k) (a.sc k) fk (woken P g g' w' x) w' ∧ (fk = f k ∨ (f k = none ∧ fk = some 0 ∧ ∃ p al, a.sc k = .pr p :: al ∧ (p = .acs ∨ ¬ Blk a' p))) ∧
      (fk = none → f k = none ∧ ∀ p al, a.sc k = .pr p :: al → Blk a' p) := by
  obtain ⟨x', hx', hs⟩ := N.sit k hk
  rw [hx] at hx'
  cases hx'
  have hk' : k < a'.n := by rw [hn]; exact hk
  have hs0 := hs
  cases hf : f k with
  | some n =>
    refine ⟨some n, ?_, .inl rfl, fun h => by cases h⟩
    have hrf : x.status = .running ∨ x.status = .finished := by
      rcases hs.status with ⟨h, _⟩ | ⟨h, _⟩ | ⟨_, h⟩
      · exact .inl h
      · exact .inr h
      · rw [hf] at h; cases h
    have : woken P g g' w' x = x := by
      rcases woken_or (P := P) g g' x w' with h | ⟨h, _⟩
      · rw [h, again_running _ hrf]
      · exact h
    rw [this, ← hf]
    exact hs.rely hR
  | none =>
    rw [hf] at hs
    generalize hsk : a.sc k = s at hs
    cases hs with
    | park hp =>
      rename_i p al
      have hsk' : a'.sc k = .pr p :: al := by rw [hsc]; exact hsk
      have hw' := hw p al hf hsk
      have stay : woken P g g' w' x = x → Blk a' p → ∃ fk, Sit P z ty Post a.wg T a.ch a.G Ts k (a.df k) (.pr p :: al) fk (woken P g g' w' x) w' ∧ (fk = none ∨ (True ∧ fk = some 0 ∧ ∃ q bs, Do.pr p :: al = .pr q :: bs ∧ (q = .acs ∨ ¬ Blk a' q))) ∧ (fk = none → True ∧ ∀ q bs, Do.pr p :: al = .pr q :: bs → Blk a' q) := by
        intro e hb
        refine ⟨none, ?_, .inl rfl, fun _ => ⟨trivial, fun q bs h => by cases h; exact hb⟩⟩
        rw [e]
        exact .park (hp.rely hR)
      have wake : Sit P z ty Post a.wg T a.ch a.G Ts k (a.df k) (.pr p :: al) (some 0) (woken P g g' w' x) w' → (p = .acs ∨ ¬ Blk a' p) → ∃ fk, Sit P z ty Post a.wg T a.ch a.G Ts k (a.df k) (.pr p :: al) fk (woken P g g' w' x) w' ∧ (fk = none ∨ (True ∧ fk = some 0 ∧ ∃ q bs, Do.pr p :: al = .pr q :: bs ∧ (q = .acs ∨ ¬ Blk a' q))) ∧ (fk = none → True ∧ ∀ q bs, Do.pr p :: al = .pr q :: bs → Blk a' q) := by
        intro h1 h2
        exact ⟨some 0, h1, .inr ⟨trivial, rfl, p, al, rfl, h2⟩, fun h => by cases h⟩
      suffices h : ∃ fk, Sit P z ty Post a.wg T a.ch a.G Ts k (a.df k) (.pr p :: al) fk (woken P g g' w' x) w' ∧ (fk = none ∨ (True ∧ fk = some 0 ∧ ∃ q bs, Do.pr p :: al = .pr q :: bs ∧ (q = .acs ∨ ¬ Blk a' q))) ∧ (fk = none → True ∧ ∀ q bs, Do.pr p :: al = .pr q :: bs → Blk a' q) by
        obtain ⟨fk, h1, h2, h3⟩ := h
        exact ⟨fk, h1, h2.imp id fun ⟨_, y⟩ => ⟨rfl, y⟩, fun e => ⟨rfl, (h3 e).2⟩⟩
      cases p with
      | snd c v =>
        obtain ⟨g₂, z', rfl, _⟩ := hp
        obtain ⟨h1, h2⟩ := L.giveOpen a' k _ c v al hK hk' hsk' (.inl rfl)
        obtain ⟨s, r, tm, hcc⟩ := hch c h1
        rw [h2] at hcc
        exact stay (woken_send_open _ _ hcc) trivial
      | rcv c v =>
        obtain ⟨g₀, rfl, _⟩ := hp
        obtain ⟨h1, h2⟩ := L.rcvOpen a' k c v al hK hk' hsk'
        obtain ⟨s, r, tm, hcc⟩ := hch c h1
        rw [h2] at hcc
        exact stay (woken_recv_open _ _ hcc) trivial
      | eof c =>
        obtain ⟨g₀, rfl, hat⟩ := hp
        obtain ⟨s, r, tm, hcc⟩ := hch c (L.eofIn a' k c al hK hk' hsk')
        cases hsh : a'.shut c with
        | false => rw [hsh] at hcc; exact stay (woken_recv_open _ _ hcc) hsh
        | true =>
          have hnb : ¬ Blk a' (.eof c) := by simp [Blk, hsh]
          rw [hsh] at hcc
          refine wake ?_ (.inr hnb)
          rw [woken_if (hw'.resolve_left hnb), again_recv_closed hcc]
          exact .run (Goes.stop fun w₁ h₁ => at_again (.inl ⟨c, rfl⟩) (hat w₁ (hR.trans h₁)))
      | sel c v s k' =>
        obtain ⟨g₀, z', zs, rfl, _, hat⟩ := hp
        obtain ⟨h1, h2⟩ := L.giveOpen a' k _ c v al hK hk' hsk' (.inr ⟨s, k', rfl⟩)
        obtain ⟨s1, r1, tm1, hcc⟩ := hch c h1
        rw [h2] at hcc
        obtain ⟨hsi, _⟩ := L.sel a' k c v s k' al hK hk' hsk'
        obtain ⟨s2, r2, tm2, hcs⟩ := hch s hsi
        cases hsh : a'.shut s with
        | false =>
          rw [hsh] at hcs
          refine stay ?_ hsh
          rcases woken_or (P := P) g g' (parked (core g₀) (selc c v z' s zs) .select) w' with h | ⟨h, _⟩
          · rw [h, again_sel_open hcc hcs]
          · exact h
        | true =>
          have hnb : ¬ Blk a' (.sel c v s k') := by simp [Blk, hsh]
          rw [hsh] at hcs
          refine wake ?_ (.inr hnb)
          rw [woken_if (hw'.resolve_left hnb), again_sel_closed hcs]
          exact .run (Goes.stop fun w₁ h₁ => at_again (.inr ⟨c, v, s, k', rfl⟩) (hat w₁ (hR.trans h₁)))
      | acs =>
        obtain ⟨g₀, rfl, hst, hof, hat⟩ := hp
        rcases woken_or (P := P) g g' { g₀ with status := .blocked } w' with h | ⟨h, hno⟩
        · refine wake ?_ (.inl rfl)
          rw [h, Go.ConcR.again_blocked hst hof]
          exact .run (Goes.stop fun w₁ h₁ => hat w₁ (hR.trans h₁))
        · exact stay h (hw'.resolve_right hno)
      | _ => exact hp.elim

/-- A STEP OF GOROUTINE i's, not a communication. -/
theorem Net.turn (L : Law K rank) (N : Net P z ty Post K a f T Ts gs w t) {a' : Abs} {i n' : Nat} {g g' : Goroutine} {w' : World} {t' : Trace} (hi : i < a.n) (hg : gs[i]? = some g) (hK : K a') (hn : a'.n = a.n) (hck : a'.ck = a.ck) (hch : a'.ch = a.ch) (hG : a'.G = a.G) (hwg : a'.wg = a.wg)
    (hsc : ∀ k, k ≠ i → a'.sc k = a.sc k) (hdf : ∀ k, k ≠ i → a'.df k = a.df k)
    (hchan : ∀ c, c ∈ a'.ck → ∃ s r tm, w'.heap[c]? = some (.chan 0 #[] (a'.shut c) s r tm)) (hgrp : a'.on = true → a.on = true ∧ WgAt ty.1 a'.wg w' ((a'.v : Int) * KK + (a'.wt : Int)) (a'.sm : Int)) (hsz : w.heap.size ≤ w'.heap.size)
    (hR : ∀ k, k ≠ i → k < a.n → RR ty a.wg a.ch Ts k w w')
    (hw : ∀ k p al, k ≠ i → k < a.n → f k = none → a.sc k = .pr p :: al → Blk a' p ∨ (mayWake P g = true ∧ (g'.status = .running ∨ g'.status = .finished)))
    (hs : Sit P z ty Post a.wg T a.ch a.G Ts i (a'.df i) (a'.sc i) (some n') g' w') (ht : Tr Ts a' w'.heap.size t') :
    ∃ f', Net P z ty Post K a' f' T Ts ((gs.map (woken P g g' w')).setIfInBounds i g') w' t' ∧ f' i = some n' ∧
      ∀ k, k ≠ i → k < a.n → f' k = f k ∨ (f k = none ∧ f' k = some 0 ∧ ∃ p al, a.sc k = .pr p :: al ∧ (p = .acs ∨ ¬ Blk a' p)) := by
  have hlt : i < gs.size := (Array.getElem?_eq_some_iff.1 hg).1
  have oth : ∀ k, k ≠ i → k < a.n → ∃ fk x, gs[k]? = some x ∧ Sit P z ty Post a.wg T a.ch a.G Ts k (a.df k) (a.sc k) fk (woken P g g' w' x) w' ∧ (fk = f k ∨ (f k = none ∧ fk = some 0 ∧ ∃ p al, a.sc k = .pr p :: al ∧ (p = .acs ∨ ¬ Blk a' p))) ∧
      (fk = none → f k = none ∧ ∀ p al, a.sc k = .pr p :: al → Blk a' p) := by
    intro k hki hk
    obtain ⟨x, hx, _⟩ := N.sit k hk
    obtain ⟨fk, h1, h2, h3⟩ := N.others L hK hn (hsc k hki) hchan (hR k hki hk) hk hx g g' fun p al => hw k p al hki hk
    exact ⟨fk, x, hx, h1, h2, h3⟩
  classical
  let F : Nat → Option Nat := fun k => if h : k ≠ i ∧ k < a.n then (oth k h.1 h.2).choose else some n'
  have hF : ∀ k, k ≠ i → k < a.n → ∃ x, gs[k]? = some x ∧ Sit P z ty Post a.wg T a.ch a.G Ts k (a.df k) (a.sc k) (F k) (woken P g g' w' x) w' ∧ (F k = f k ∨ (f k = none ∧ F k = some 0 ∧ ∃ p al, a.sc k = .pr p :: al ∧ (p = .acs ∨ ¬ Blk a' p))) ∧
      (F k = none → f k = none ∧ ∀ p al, a.sc k = .pr p :: al → Blk a' p) := by
    intro k h1 h2
    have e : F k = (oth k h1 h2).choose := by simp only [F]; rw [dif_pos ⟨h1, h2⟩]
    rw [e]
    exact (oth k h1 h2).choose_spec
  have hFi : F i = some n' := by simp only [F]; rw [dif_neg (fun h => h.1 rfl)]
  refine ⟨F, ⟨hK, (by rw [Array.size_setIfInBounds, Array.size_map, hn]; exact N.size), fun k hk => ?_, hchan, fun ho => ?_, fun c hc => ?_, fun k k0 hk => ?_, fun c hc => ?_, fun k b hb => ?_, fun b hb => ?_, fun k b hb => Nat.lt_of_lt_of_le (N.tsk k b hb) hsz, fun k p al hk hfk hsk => ?_, fun k l p c u u' ds es hk hl hfk hfl hsk hgv hsl => ?_, ht⟩, hFi, fun k hki hk => (hF k hki hk).choose_spec.2.2.1⟩
  · rw [hn] at hk
    rw [hwg, hch, hG]
    by_cases hki : k = i
    · subst hki
      exact ⟨g', by simp [hlt], by rw [hFi]; exact hs⟩
    · obtain ⟨x, hx, hsx, _⟩ := hF k hki hk
      refine ⟨_, get_map_set gs _ i k g' x hx, ?_⟩
      rw [hsc k hki, hdf k hki, if_neg hki]
      exact hsx
  · obtain ⟨h1, h2⟩ := hgrp ho
    rw [hch, hG, hwg]
    rw [hwg] at h2
    exact ⟨h2, (N.grp h1).2⟩
  · rw [hch]; exact N.ckch c (by rw [← hck]; exact hc)
  · rw [hn] at hk; exact N.sub k k0 hk
  · rw [hch] at hc; exact N.apart c hc
  · rw [hG]; exact N.offG k b hb
  · rw [hch, hG] at hb; exact Nat.lt_of_lt_of_le (N.tsz b hb) hsz
  · rw [hn] at hk
    have h1 : k ≠ i := by rintro rfl; rw [hFi] at hfk; cases hfk
    obtain ⟨x, hx, hsx, _, hno⟩ := hF k h1 hk
    rw [hsc k h1] at hsk
    exact (hno hfk).2 p al hsk
  · rw [hn] at hk hl
    have h1 : k ≠ i := by rintro rfl; rw [hFi] at hfk; cases hfk
    have h3 : l ≠ i := by rintro rfl; rw [hFi] at hfl; cases hfl
    obtain ⟨x, hx, hsx, _, hno⟩ := hF k h1 hk
    obtain ⟨y, hy, hsy, _, hno'⟩ := hF l h3 hl
    rw [hsc k h1] at hsk
    rw [hsc l h3] at hsl
    exact N.noMeet k l p c u u' ds es hk hl (hno hfk).1 (hno' hfl).1 hsk hgv hsl

end
end Go.Proofs.Ytplndihadjfliaa.Mix
/-
  A NET OF GOROUTINES WITH select AND sync.WaitGroup: steps of one's own; the group's acts.
-/
set_option linter.unusedSimpArgs false
set_option linter.unusedVariables false
namespace Go.Proofs.Ytplndihadjfliaa.Mix
open Go Go.Conc Go.ConcN
open Go.ConcR (KK wgBlock WgAt stA smA rd wr mk)

section
variable {P : Program} {z : Nat → Value} {ty : TypeId × Bool} {Post : List Nat → List Nat → List Nat → Goroutine → World → Prop} {K : Abs → Prop} {rank : Abs → Nat} {a : Abs} {f : Nat → Option Nat} {T : List Nat} {Ts : Nat → List Nat} {gs : Array Goroutine} {w : World} {t : Trace}

theorem Net.at (N : Net P z ty Post K a f T Ts gs w t) (d : Nat) : Net P z ty Post K a f T Ts gs (w.at d) t :=
  ⟨N.k, N.size, fun i hi => let ⟨g, hg, hs⟩ := N.sit i hi; ⟨g, hg, hs.rely (RR.at _ _ _)⟩, N.chan, N.grp, N.ckch, N.sub, N.apart, N.offG, N.tsz, N.tsk, N.opn, N.noMeet, N.tr⟩

theorem Net.rput (N : Net P z ty Post K a f T Ts gs w t) {k c : Nat} (hk : k < a.n) (hc : c ∈ a.ck) (o : Obj) : RR ty a.wg a.ch Ts k w { w with heap := w.heap.setIfInBounds c o } := by
  obtain ⟨s, r, tm, hcb⟩ := N.chan c hc
  have hc := N.ckch c hc
  by_cases hk0 : k = 0
  · subst hk0
    simpa [RR] using RC.put hc hcb o
  · simpa [RR, hk0] using RW.put (fun h => N.apart c hc (N.sub k hk0 hk c h)) hcb o

theorem Net.rcell (N : Net P z ty Post K a f T Ts gs w t) {k : Nat} {ad : Addr} (hk : k < a.n) (hc : ad.block ∈ a.ch) (w0 : World) (u : Value) (hl : WgLive ty.1 a.wg (w0.setCell ad u)) : RR ty a.wg a.ch Ts k w0 (w0.setCell ad u) := by
  by_cases hk0 : k = 0
  · subst hk0
    simpa [RR] using RC.cell hc w0 u hl
  · simpa [RR, hk0] using RW.cell (fun h => N.apart _ hc (N.sub k hk0 hk _ h)) w0 u hl

theorem setCell_other {ad : Addr} {w : World} {u : Value} {b : Nat} (h : b ≠ ad.block) : (w.setCell ad u).heap[b]? = w.heap[b]? := by
  simp only [World.setCell, Array.getElem?_modify]
  rw [if_neg (fun e => h e.symm)]
theorem setCell_size {ad : Addr} {w : World} {u : Value} : (w.setCell ad u).heap.size = w.heap.size := by simp [World.setCell]

/-- The group's block is no channel. -/
theorem Net.wgCk (N : Net P z ty Post K a f T Ts gs w t) (ho : a.on = true) {c : Nat} (hc : c ∈ a.ck) : c ≠ a.wg := by
  rintro rfl
  obtain ⟨s, r, tm, h⟩ := N.chan _ hc
  have := (N.grp ho).1
  unfold WgAt wgBlock at this
  rw [h] at this; cases this

theorem evs_nil (i : Nat) (fn : FuncId) (pos : String) : MemOp.ofEvents i fn pos #[] = #[] := by rw [ofEvents_eq]; simp

/-- AN OWN STEP: the abstract net stands. -/
theorem Net.own (L : Law K rank) (N : Net P z ty Post K a f T Ts gs w t) {i n n' : Nat} {sl : Option (Nat × Nat)} {g g' : Goroutine} {w' : World} {es : Array Event} (hi : i < a.n) (hg : gs[i]? = some g) (hf : f i = some n) (hn : n' < n)
    (h : stepG P (i == 0) g w = .go g' w' es) (hch : ∀ b, b ∈ a.ch → w'.heap[b]? = w.heap[b]?) (hsz : w.heap.size ≤ w'.heap.size) (hR : ∀ j, j ≠ i → j < a.n → RR ty a.wg a.ch Ts j w w')
    (hs : Sit P z ty Post a.wg T a.ch a.G Ts i (a.df i) (a.sc i) (some n') g' w') (ht : Tr Ts a w'.heap.size (t ++ MemOp.ofEvents i g.frame.fn g.frame.place es)) :
    ∃ m' ops μ', runT P (crowd gs w sl) i = (.next m', ops) ∧ Lt2 μ' (mu rank a f) ∧ Inv P z ty Post K rank μ' m' (t ++ ops) := by
  obtain ⟨f', hN, hfi, hfo⟩ := N.turn L hi hg N.k rfl rfl rfl rfl rfl (fun _ _ => rfl) (fun _ _ => rfl) (g := g) (g' := g') (w' := w') (fun c hc => by rw [hch c (N.ckch c hc)]; exact N.chan c hc)
    (fun ho => ⟨ho, (by have := (N.grp ho).1; unfold WgAt at this ⊢; rw [hch _ (N.grp ho).2.1]; exact this)⟩) hsz hR (fun k p al _ hk hfk hsk => .inl (N.opn k p al hk hfk hsk)) hs ht
  refine ⟨_, _, _, runT_crowd_go hg h, ?_, .mk sl hN⟩
  refine lt_own hi hf hfi hn fun k hki hk => ?_
  rcases hfo k hki hk with h | ⟨h1, h2, p, al, h3, h4⟩
  · exact .inl h
  · rcases h4 with rfl | h4
    · exact .inr ⟨(L.acs a k al N.k hk h3).1, h1, h2⟩
    · exact absurd (N.opn k p al hk h1 h3) h4

/-- A STEP that brings the abstract net to a'. -/
theorem Net.act (L : Law K rank) (N : Net P z ty Post K a f T Ts gs w t) {a' : Abs} {i : Nat} {sl : Option (Nat × Nat)} {g g' : Goroutine} {w' : World} {es : Array Event} (hi : i < a.n) (hg : gs[i]? = some g) (h : stepG P (i == 0) g w = .go g' w' es)
    (hK : K a') (hrk : rank a' < rank a) (hn : a'.n = a.n) (hck : a'.ck = a.ck) (hch : a'.ch = a.ch) (hG : a'.G = a.G) (hwg : a'.wg = a.wg) (hsc : ∀ k, k ≠ i → a'.sc k = a.sc k) (hdf : ∀ k, k ≠ i → a'.df k = a.df k)
    (hchan : ∀ c, c ∈ a'.ck → ∃ s r tm, w'.heap[c]? = some (.chan 0 #[] (a'.shut c) s r tm)) (hgrp : a'.on = true → a.on = true ∧ WgAt ty.1 a'.wg w' ((a'.v : Int) * KK + (a'.wt : Int)) (a'.sm : Int)) (hsz : w.heap.size ≤ w'.heap.size)
    (hR : ∀ k, k ≠ i → k < a.n → RR ty a.wg a.ch Ts k w w')
    (hw : ∀ k p al, k ≠ i → k < a.n → f k = none → a.sc k = .pr p :: al → Blk a' p ∨ (mayWake P g = true ∧ (g'.status = .running ∨ g'.status = .finished)))
    (hs : NN P z ty Post a.wg T a.ch a.G Ts i (a'.df i) (a'.sc i) g' w') (ht : Tr Ts a' w'.heap.size (t ++ MemOp.ofEvents i g.frame.fn g.frame.place es)) :
    ∃ m' ops μ', runT P (crowd gs w sl) i = (.next m', ops) ∧ Lt2 μ' (mu rank a f) ∧ Inv P z ty Post K rank μ' m' (t ++ ops) := by
  obtain ⟨n', hs⟩ := sit_of_NN hs
  obtain ⟨f', hN, _, _⟩ := N.turn L hi hg hK hn hck hch hG hwg hsc hdf hchan hgrp hsz hR hw hs ht
  exact ⟨_, _, _, runT_crowd_go hg h, lt_rank hrk, .mk sl hN⟩

theorem to_sc (a : Abs) (i : Nat) (al : List Do) : (a.to i al).sc i = al := by simp [Abs.to, put]
theorem grp_sc (a : Abs) (i : Nat) (al : List Do) (v wt sm : Nat) : (a.grp i al v wt sm).sc i = al := by simp [Abs.grp, put]
theorem say_sc (a : Abs) (i : Nat) (m : Mark) (al : List Do) : (a.say i m al).sc i = al := by simp [Abs.say, put]

theorem out_put {a a' : Abs} {i : Nat} {al : List Do} (hne : a.sc i ≠ []) (hsc : a'.sc = put a.sc i al) (hrel : a'.rel = a.rel) : ∀ j, a.out j → a'.out j := by
  intro j hj
  rcases hj with h | h
  · have : j ≠ i := fun e => hne (e ▸ h)
    left; rw [hsc, put_ne _ _ this]; exact h
  · right; rw [hrel]; exact h

/-- A WORD. -/
theorem Net.atSay (L : Law K rank) (N : Net P z ty Post K a f T Ts gs w t) {i : Nat} {m : Mark} {al : List Do} {sl : Option (Nat × Nat)} {g : Goroutine} (hi : i < a.n) (hg : gs[i]? = some g) (hsi : a.sc i = .pr (.say m) :: al)
    (hat : At P z ty Post a.wg T a.ch a.G Ts i (a.df i) (.say m) al g w) :
    ∃ m' ops μ', runT P (crowd gs w sl) i = (.next m', ops) ∧ Lt2 μ' (mu rank a f) ∧ Inv P z ty Post K rank μ' m' (t ++ ops) := by
  obtain ⟨hm, hK, hrk⟩ := L.say a i m al N.k hi hsi
  obtain ⟨hrun, g', hst, hnext⟩ := hat
  have hne : a.sc i ≠ [] := by rw [hsi]; simp
  have hdf : (a.say i m al).df = put a.df i (saidDf m (a.df i)) := rfl
  have hnext : NN P z ty Post a.wg T a.ch a.G Ts i (saidDf m (a.df i)) al g' w := hnext
  refine N.act L hi hg hst hK hrk rfl rfl rfl rfl rfl (fun k hk => by simp [Abs.say, put, hk]) (fun k hk => by rw [hdf, put_ne _ _ hk]) N.chan (fun ho => ⟨ho, (N.grp ho).1⟩) (Nat.le_refl _) (fun k _ _ => RR.refl _ _)
    (fun k p al _ hk hfk hsk => .inl (by have := N.opn k p al hk hfk hsk; cases p <;> exact this)) (by rw [say_sc, hdf, put_same]; exact hnext) ?_
  have e1 : ∀ fn pos, MemOp.ofEvents i fn pos #[Go.ConcR.mk m] = #[{ g := i, fn, pos, act := .mark m }] := fun fn pos => by rw [ofEvents_eq]; simp [Go.ConcR.ofEvent_mk]
  have word : (m = .disable ∨ m = .enable) → Tr Ts (a.say i m al) w.heap.size (t ++ MemOp.ofEvents i g.frame.fn g.frame.place #[Go.ConcR.mk m]) := by
    intro hm
    have hb := N.tr.bk (fn := g.frame.fn) (pos := g.frame.place) (es := #[Go.ConcR.mk m]) N.offG hi (Nat.le_refl _) (fun b hb => N.tsz b (.inr (.inr hb)))
      (fun e he => by simp only [List.mem_toArray, List.mem_cons, List.not_mem_nil, or_false] at he; subst he; exact hm.imp (fun h => by rw [h]; rfl) (fun h => .inl (by rw [h]; rfl)))
      (fun _ _ j e he => .inl (by
        have hem : e ∈ #[Go.ConcR.mk m] := Array.mem_of_getElem? he
        simp only [List.mem_toArray, List.mem_cons, List.not_mem_nil, or_false] at hem
        subst hem
        rcases hm with rfl | rfl <;> rfl))
    refine hb.abs rfl rfl rfl rfl ?_ rfl ?_ ?_ (out_put hne rfl ?_)
    · rcases hm with rfl | rfl <;> simp [Abs.say]
    · rcases hm with rfl | rfl <;> simp [Abs.say, saidDf, deafBehind, Go.ConcR.mk]
    · rcases hm with rfl | rfl <;> simp [Abs.say]
    · rcases hm with rfl | rfl <;> simp [Abs.say]
  rcases hm with h | h | ⟨rfl, i0, hd⟩ | ⟨rfl, rfl, hd⟩
  · exact word (.inl h)
  · exact word (.inr h)
  · rw [e1]; exact N.tr.release N.offG i0 hne hi hd
  · rw [e1]; exact N.tr.acquire N.offG hne hi hd

/-- The trace at a group's act. -/
theorem Net.grpTr (N : Net P z ty Post K a f T Ts gs w t) {i : Nat} {es : Array Event} {a' : Abs} {al : List Do} (hi : i < a.n) (ho : a.on = true) (hne : a.sc i ≠ []) {fn : FuncId} {pos : String}
    (hes : ∀ e ∈ es, e.loc = .mark .disable ∨ e.loc = .mark .enable ∨ ∃ ad wr, e = ⟨.cell ad, wr, true⟩ ∧ ad.block = a.wg) (hd : deafBehind (a.df i) es = a.df i)
    (hq : i ≠ 0 → ∀ j e, es[j]? = some e → (MemAct.ofEvent e).touch? = none ∨ ((∃ ad wr, e = ⟨.cell ad, wr, true⟩) ∧ 0 < deafBehind (a.df i) (es.extract 0 j)))
    (hn : a'.n = a.n) (hG : a'.G = a.G) (hw : a'.wg = a.wg) (hs : a'.shut = a.shut) (hkn : a'.kn = a.kn) (hkc : a'.kc = a.kc) (hdf : a'.df = a.df) (hrel : a'.rel = a.rel) (hsc : a'.sc = put a.sc i al) : Tr Ts a' w.heap.size (t ++ MemOp.ofEvents i fn pos es) := by
  have hb := N.tr.bk (fn := fn) (pos := pos) (es := es) N.offG hi (Nat.le_refl _) (fun b hb => N.tsz b (.inr (.inr hb)))
    (fun e he => (hes e he).imp id fun h => h.imp id fun ⟨ad, wr, h1, h2⟩ => ⟨ad, wr, h1, by rw [h2]; exact (N.grp ho).2.2⟩) (fun i0 _ => hq i0)
  rw [hd, put_self] at hb
  exact hb.abs hn hG hw hs hkn hkc hdf hrel (out_put hne hsc hrel)

theorem rdwr_deaf (Wg d : Nat) : deafBehind d #[rd (stA Wg), wr (stA Wg)] = d := rfl
theorem rd_deaf (Wg d : Nat) : deafBehind d #[rd (stA Wg)] = d := rfl
theorem wr_deaf (Wg d : Nat) : deafBehind d #[wr (stA Wg)] = d := rfl
theorem sem_deaf (ad : Addr) (d : Nat) : deafBehind d (semEvents ad) = d := by simp [deafBehind, semEvents]

theorem rdwr_q (Wg : Nat) {d : Nat} (hd : 0 < d) : ∀ j e, (#[rd (stA Wg), wr (stA Wg)] : Array Event)[j]? = some e → (MemAct.ofEvent e).touch? = none ∨ ((∃ ad wr, e = ⟨.cell ad, wr, true⟩) ∧ 0 < deafBehind d (#[rd (stA Wg), wr (stA Wg)].extract 0 j)) := by
  intro j e he
  match j, he with
  | 0, he => cases he; exact .inr ⟨⟨_, _, rfl⟩, hd⟩
  | 1, he => cases he; exact .inr ⟨⟨_, _, rfl⟩, hd⟩
  | j + 2, he => simp at he
theorem rd_q (Wg : Nat) {d : Nat} (hd : 0 < d) : ∀ j e, (#[rd (stA Wg)] : Array Event)[j]? = some e → (MemAct.ofEvent e).touch? = none ∨ ((∃ ad wr, e = ⟨.cell ad, wr, true⟩) ∧ 0 < deafBehind d (#[rd (stA Wg)].extract 0 j)) := by
  intro j e he
  match j, he with
  | 0, he => cases he; exact .inr ⟨⟨_, _, rfl⟩, hd⟩
  | j + 1, he => simp at he
theorem wr_q (Wg : Nat) {d : Nat} (hd : 0 < d) : ∀ j e, (#[wr (stA Wg)] : Array Event)[j]? = some e → (MemAct.ofEvent e).touch? = none ∨ ((∃ ad wr, e = ⟨.cell ad, wr, true⟩) ∧ 0 < deafBehind d (#[wr (stA Wg)].extract 0 j)) := by
  intro j e he
  match j, he with
  | 0, he => cases he; exact .inr ⟨⟨_, _, rfl⟩, hd⟩
  | j + 1, he => simp at he
theorem sem_q (ad : Addr) (d : Nat) : ∀ j e, (semEvents ad)[j]? = some e → (MemAct.ofEvent e).touch? = none ∨ ((∃ ad wr, e = ⟨.cell ad, wr, true⟩) ∧ 0 < deafBehind d ((semEvents ad).extract 0 j)) := by
  intro j e he
  match j, he with
  | 0, he => cases he; exact .inl rfl
  | 1, he => cases he; exact .inr ⟨⟨_, _, rfl⟩, Nat.succ_pos d⟩
  | 2, he => cases he; exact .inr ⟨⟨_, _, rfl⟩, Nat.succ_pos d⟩
  | 3, he => cases he; exact .inl rfl
  | j + 4, he => simp [semEvents] at he
theorem rdwr_bk (Wg : Nat) : ∀ e ∈ (#[rd (stA Wg), wr (stA Wg)] : Array Event), e.loc = .mark .disable ∨ e.loc = .mark .enable ∨ ∃ ad wr, e = ⟨.cell ad, wr, true⟩ ∧ ad.block = Wg := by
  intro e he
  simp only [List.mem_toArray, List.mem_cons, List.not_mem_nil, or_false] at he
  rcases he with rfl | rfl <;> exact .inr (.inr ⟨_, _, rfl, rfl⟩)
theorem rd_bk (Wg : Nat) : ∀ e ∈ (#[rd (stA Wg)] : Array Event), e.loc = .mark .disable ∨ e.loc = .mark .enable ∨ ∃ ad wr, e = ⟨.cell ad, wr, true⟩ ∧ ad.block = Wg := by
  intro e he
  simp only [List.mem_toArray, List.mem_cons, List.not_mem_nil, or_false] at he
  subst he; exact .inr (.inr ⟨_, _, rfl, rfl⟩)
theorem wr_bk (Wg : Nat) : ∀ e ∈ (#[wr (stA Wg)] : Array Event), e.loc = .mark .disable ∨ e.loc = .mark .enable ∨ ∃ ad wr, e = ⟨.cell ad, wr, true⟩ ∧ ad.block = Wg := by
  intro e he
  simp only [List.mem_toArray, List.mem_cons, List.not_mem_nil, or_false] at he
  subst he; exact .inr (.inr ⟨_, _, rfl, rfl⟩)
theorem sem_bk (Wg : Nat) : ∀ e ∈ semEvents (smA Wg), e.loc = .mark .disable ∨ e.loc = .mark .enable ∨ ∃ ad wr, e = ⟨.cell ad, wr, true⟩ ∧ ad.block = Wg := by
  intro e he
  simp only [semEvents, List.mem_toArray, List.mem_cons, List.not_mem_nil, or_false] at he
  rcases he with rfl | rfl | rfl | rfl
  · exact .inl rfl
  · exact .inr (.inr ⟨_, _, rfl, rfl⟩)
  · exact .inr (.inr ⟨_, _, rfl, rfl⟩)
  · exact .inr (.inl rfl)

/-- A GROUP'S ACT: the state is set. -/
theorem Net.actSet (L : Law K rank) (N : Net P z ty Post K a f T Ts gs w t) {i : Nat} {sl : Option (Nat × Nat)} {g g' : Goroutine} {es : Array Event} {ad : Addr} {u : Value} {al : List Do} {v wt sm : Nat} (hi : i < a.n) (hg : gs[i]? = some g) (ho : a.on = true) (hne : a.sc i ≠ [])
    (had : ad.block = a.wg) (h : stepG P (i == 0) g w = .go g' (w.setCell ad u) es) (hK : K (a.grp i al v wt sm)) (hrk : rank (a.grp i al v wt sm) < rank a)
    (hes : ∀ e ∈ es, e.loc = .mark .disable ∨ e.loc = .mark .enable ∨ ∃ ad wr, e = ⟨.cell ad, wr, true⟩ ∧ ad.block = a.wg) (hd : deafBehind (a.df i) es = a.df i)
    (hq : i ≠ 0 → ∀ j e, es[j]? = some e → (MemAct.ofEvent e).touch? = none ∨ ((∃ ad wr, e = ⟨.cell ad, wr, true⟩) ∧ 0 < deafBehind (a.df i) (es.extract 0 j)))
    (hgrp : WgAt ty.1 a.wg (w.setCell ad u) ((v : Int) * KK + (wt : Int)) (sm : Int)) (hsm : sm = 0 ∨ (mayWake P g = true ∧ (g'.status = .running ∨ g'.status = .finished)))
    (hnext : NN P z ty Post a.wg T a.ch a.G Ts i (a.df i) al g' (w.setCell ad u)) :
    ∃ m' ops μ', runT P (crowd gs w sl) i = (.next m', ops) ∧ Lt2 μ' (mu rank a f) ∧ Inv P z ty Post K rank μ' m' (t ++ ops) := by
  refine N.act L hi hg h hK hrk rfl rfl rfl rfl rfl (fun k hk => by simp [Abs.grp, put, hk]) (fun k hk => rfl) (fun c hc => ?_) (fun _ => ⟨ho, hgrp⟩) (by rw [setCell_size]; exact Nat.le_refl _) (fun k _ hk => N.rcell hk (by rw [had]; exact (N.grp ho).2.1) _ _ ⟨_, _, hgrp⟩)
    (fun k p al _ hk hfk hsk => ?_) (by rw [grp_sc]; exact hnext) (by rw [setCell_size]; exact N.grpTr hi ho hne hes hd hq rfl rfl rfl rfl rfl rfl rfl rfl rfl)
  · rw [setCell_other (by rw [had]; exact N.wgCk ho hc)]; exact N.chan c hc
  · have hb := N.opn k p al hk hfk hsk
    cases p with
    | acs =>
      rcases hsm with h | h
      · exact .inl h
      · exact .inr h
    | _ => exact .inl hb

/-- A GROUP'S ACT: the state is looked at. -/
theorem Net.actLook (L : Law K rank) (N : Net P z ty Post K a f T Ts gs w t) {i : Nat} {sl : Option (Nat × Nat)} {g g' : Goroutine} {al : List Do} (hi : i < a.n) (hg : gs[i]? = some g) (ho : a.on = true) (hne : a.sc i ≠ [])
    (h : stepG P (i == 0) g w = .go g' w #[rd (stA a.wg)]) (hK : K (a.to i al)) (hrk : rank (a.to i al) < rank a) (hd : i ≠ 0 → 0 < a.df i)
    (hnext : NN P z ty Post a.wg T a.ch a.G Ts i (a.df i) al g' w) :
    ∃ m' ops μ', runT P (crowd gs w sl) i = (.next m', ops) ∧ Lt2 μ' (mu rank a f) ∧ Inv P z ty Post K rank μ' m' (t ++ ops) := by
  refine N.act L hi hg h hK hrk rfl rfl rfl rfl rfl (fun k hk => by simp [Abs.to, put, hk]) (fun k hk => rfl) N.chan (fun _ => ⟨ho, (N.grp ho).1⟩) (Nat.le_refl _) (fun k _ hk => RR.refl _ _)
    (fun k p al _ hk hfk hsk => .inl (by have := N.opn k p al hk hfk hsk; cases p <;> exact this)) (by rw [to_sc]; exact hnext) (N.grpTr hi ho hne (rd_bk _) rfl (fun i0 => rd_q _ (hd i0)) rfl rfl rfl rfl rfl rfl rfl rfl rfl)

theorem WgAt.cast {t : TypeId} {Wg : Nat} {w : World} {x y x' y' : Int} (h : WgAt t Wg w x y) (e : x = x') (e' : y = y') : WgAt t Wg w x' y' := by subst e e'; exact h
theorem setSt' {Wg : Nat} {w : World} {st sm v : Int} (h : WgAt ty.1 Wg w st sm) : WgAt ty.1 Wg (w.setCell (stA Wg) (.int .u64 v)) v sm := Go.ConcR.WgAt.setSt h v
theorem setSm' {Wg : Nat} {w : World} {st sm v : Int} (h : WgAt ty.1 Wg w st sm) : WgAt ty.1 Wg (w.setCell (smA Wg) (.int .u32 v)) st v := Go.ConcR.WgAt.setSm h v

/-- THE GROUP'S ACTS. -/
theorem Net.atGrp (L : Law K rank) (N : Net P z ty Post K a f T Ts gs w t) {i : Nat} {p : Pr} {al : List Do} {sl : Option (Nat × Nat)} {g : Goroutine} (hi : i < a.n) (hg : gs[i]? = some g) (hsi : a.sc i = .pr p :: al)
    (hp : p = .inc ∨ (∃ k, p = .dec k) ∨ p = .ldl ∨ p = .clr ∨ p = .rls ∨ (∃ k, p = .wld k) ∨ (∃ vs k, p = .cas vs k) ∨ (p = .acs ∧ a.sm = 1) ∨ p = .wl4) (hat : At P z ty Post a.wg T a.ch a.G Ts i (a.df i) p al g w) :
    ∃ m' ops μ', runT P (crowd gs w sl) i = (.next m', ops) ∧ Lt2 μ' (mu rank a f) ∧ Inv P z ty Post K rank μ' m' (t ++ ops) := by
  have hne : a.sc i ≠ [] := by rw [hsi]; simp
  rcases hp with rfl | ⟨k, rfl⟩ | rfl | rfl | rfl | ⟨k, rfl⟩ | ⟨vs, k, rfl⟩ | ⟨rfl, hsm1⟩ | rfl
  · obtain ⟨rfl, ho, hv, hwt, hsm, hK, hrk⟩ := L.inc a i al N.k hi hsi
    obtain ⟨_, hat⟩ := hat
    have hW := (N.grp ho).1
    rw [hwt, hsm] at hW
    have hW : WgAt ty.1 a.wg w ((a.v : Int) * KK) 0 := WgAt.cast hW (by simp) (by simp)
    obtain ⟨g', hst, hn⟩ := hat a.v hv hW
    exact N.actSet L hi hg ho hne rfl hst hK hrk (rdwr_bk _) rfl (fun h => absurd rfl h) (WgAt.cast (setSt' hW) (by push_cast; simp) (by simp)) (.inl rfl) hn
  · obtain ⟨hd, ho, hsm, hwt, v, hv, hvl, hA, hB⟩ := L.dec a i k al N.k hi hsi
    obtain ⟨_, hat⟩ := hat
    have hW := (N.grp ho).1
    rw [hsm, hv] at hW
    have hW : WgAt ty.1 a.wg w (((v : Int) + 1) * KK + (a.wt : Int)) 0 := WgAt.cast hW (by push_cast; rfl) (by simp)
    obtain ⟨g', hst, hn1, hn2⟩ := hat v a.wt hwt hvl hW
    by_cases hc : v = 0 ∧ a.wt = 1
    · obtain ⟨hK, hrk⟩ := hA hc
      obtain ⟨h1, h2⟩ := hc
      exact N.actSet L hi hg ho hne rfl hst hK hrk (rdwr_bk _) rfl (fun _ => rdwr_q _ hd) (WgAt.cast (setSt' hW) (by rw [h1, h2]) (by simp)) (.inl rfl) (hn1 ⟨h1, h2⟩)
    · obtain ⟨hK, hrk⟩ := hB hc
      exact N.actSet L hi hg ho hne rfl hst hK hrk (rdwr_bk _) rfl (fun _ => rdwr_q _ hd) (WgAt.cast (setSt' hW) rfl (by simp)) (.inl rfl) (hn2 hc)
  · obtain ⟨hd, ho, hv, hwt, hsm, hK, hrk⟩ := L.ldl a i al N.k hi hsi
    obtain ⟨_, hat⟩ := hat
    have hW := (N.grp ho).1
    rw [hv, hwt, hsm] at hW
    obtain ⟨g', hst, hn⟩ := hat (WgAt.cast hW (by simp) (by simp))
    exact N.actLook L hi hg ho hne hst hK hrk (fun _ => hd) hn
  · obtain ⟨hd, ho, hv, hwt, hsm, hK, hrk⟩ := L.clr a i al N.k hi hsi
    obtain ⟨_, hat⟩ := hat
    have hW := (N.grp ho).1
    rw [hv, hwt, hsm] at hW
    have hW : WgAt ty.1 a.wg w 1 0 := WgAt.cast hW (by simp) (by simp)
    obtain ⟨g', hst, hn⟩ := hat hW
    exact N.actSet L hi hg ho hne rfl hst hK hrk (wr_bk _) rfl (fun _ => wr_q _ hd) (WgAt.cast (setSt' hW) (by simp) (by simp)) (.inl rfl) hn
  · obtain ⟨ho, hv, hwt, hsm, hK, hrk⟩ := L.rls a i al N.k hi hsi
    obtain ⟨_, hmw, hat⟩ := hat
    have hW := (N.grp ho).1
    rw [hv, hwt, hsm] at hW
    have hW : WgAt ty.1 a.wg w 0 0 := WgAt.cast hW (by simp) (by simp)
    obtain ⟨g', hst, hg', hn⟩ := hat hW
    exact N.actSet L hi hg ho hne rfl hst hK hrk (sem_bk _) (sem_deaf _ _) (fun _ => sem_q _ _) (WgAt.cast (setSm' hW) (by simp) (by simp)) (.inr ⟨hmw, hg'⟩) hn
  · obtain ⟨rfl, ho, hv, hvl, hwt, hsm, hA, hB⟩ := L.wld a i k al N.k hi hsi
    obtain ⟨_, hat⟩ := hat
    have hW := (N.grp ho).1
    rw [hwt, hsm] at hW
    obtain ⟨g', hst, hn1, hn2⟩ := hat a.v hv hvl (WgAt.cast hW (by simp) (by simp))
    by_cases hc : a.v = 0
    · obtain ⟨hK, hrk⟩ := hA hc
      exact N.actLook L hi hg ho hne hst hK hrk (fun h => absurd rfl h) (hn1 hc)
    · obtain ⟨hK, hrk⟩ := hB hc
      exact N.actLook L hi hg ho hne hst hK hrk (fun h => absurd rfl h) (hn2 hc)
  · obtain ⟨rfl, ho, hv, hwt, hsm, hA, hB⟩ := L.cas a i vs k al N.k hi hsi
    obtain ⟨_, hat⟩ := hat
    have hW := (N.grp ho).1
    rw [hwt, hsm] at hW
    have hW : WgAt ty.1 a.wg w ((a.v : Int) * KK) 0 := WgAt.cast hW (by simp) (by simp)
    obtain ⟨h1, h2⟩ := hat a.v hv hW
    by_cases hc : a.v = vs
    · obtain ⟨hK, hrk⟩ := hA hc
      obtain ⟨g', hst, hn⟩ := h1 hc
      exact N.actSet L hi hg ho hne rfl hst hK hrk (rdwr_bk _) rfl (fun h => absurd rfl h) (WgAt.cast (setSt' hW) (by simp) (by simp)) (.inl rfl) hn
    · obtain ⟨hK, hrk⟩ := hB hc
      obtain ⟨g', hst, hn⟩ := h2 hc
      exact N.actLook L hi hg ho hne hst hK hrk (fun h => absurd rfl h) hn
  · obtain ⟨rfl, ho, _, hA⟩ := L.acs a i al N.k hi hsi
    obtain ⟨hv, hwt, hK, hrk⟩ := hA hsm1
    obtain ⟨_, _, _, hat⟩ := hat
    have hW := (N.grp ho).1
    rw [hv, hwt, hsm1] at hW
    have hW : WgAt ty.1 a.wg w 0 1 := WgAt.cast hW (by simp) (by simp)
    obtain ⟨g', hst, hn⟩ := hat hW
    exact N.actSet L hi hg ho hne rfl hst hK hrk (sem_bk _) (sem_deaf _ _) (fun h => absurd rfl h) (WgAt.cast (setSm' hW) (by simp) (by simp)) (.inl rfl) hn
  · obtain ⟨rfl, ho, hv, hwt, hsm, hK, hrk⟩ := L.wl4 a i al N.k hi hsi
    obtain ⟨_, hat⟩ := hat
    have hW := (N.grp ho).1
    rw [hv, hwt, hsm] at hW
    obtain ⟨g', hst, hn⟩ := hat (WgAt.cast hW (by simp) (by simp))
    exact N.actLook L hi hg ho hne hst hK hrk (fun h => absurd rfl h) hn

end
end Go.Proofs.Ytplndihadjfliaa.Mix
