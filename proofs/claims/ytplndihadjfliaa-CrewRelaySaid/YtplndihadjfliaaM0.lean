/-
  A NET OF GOROUTINES over channels without a buffer, each with a script (a list of acts); the machine's theorem over an abstract net. Definitions.
-/
import Derived.Conc.CrowdSel
import Derived.Conc.CrowdTrace
import Derived.Conc.LeavingOf
import Derived.Conc.CrowdBase
set_option linter.unusedSimpArgs false
set_option linter.unusedVariables false
namespace Go.Proofs.Ytplndihadjfliaa.Net
open Go Go.Conc Go.ConcN

/-- An act: a send, a receive that is handed a value, a receive that finds the channel closed, a close. -/
inductive Pr where
  | snd (c : Nat) (v : Value)
  | rcv (c : Nat) (v : Value)
  | eof (c : Nat)
  | cls (c : Nat)

/-- .. and a go statement: what the child reads (blocks), the channels that are new to the net, the child's script. -/
inductive Do where
  | pr (p : Pr)
  | fork (T cs : List Nat) (kid : List Pr)

/-- The abstract net: how many goroutines, the script of each, which channels are in it, which are closed; whose touches (of those that have ended) each knows; .. the closer of a channel knew. -/
structure Abs where
  n : Nat
  sc : Nat → List Do
  ch : List Nat
  shut : Nat → Bool
  kn : Nat → List Nat
  kc : Nat → List Nat

def put {α : Type} (f : Nat → α) (i : Nat) (x : α) : Nat → α := fun j => if j = i then x else f j
theorem put_same {α : Type} (f : Nat → α) (i : Nat) (x : α) : put f i x i = x := by simp [put]
theorem put_ne {α : Type} (f : Nat → α) {i j : Nat} (x : α) (h : j ≠ i) : put f i x j = f j := by simp [put, h]

def Abs.pass (a : Abs) (i j : Nat) (al bs : List Do) : Abs := { a with sc := put (put a.sc i al) j bs }
def Abs.seen (a : Abs) (i c : Nat) (al : List Do) : Abs := { a with sc := put a.sc i al, kn := put a.kn i (a.kc c ++ a.kn i) }
def Abs.close (a : Abs) (i c : Nat) : Abs := { a with sc := put a.sc i [], shut := put a.shut c true, kc := put a.kc c (i :: a.kn i) }
def Abs.fork (a : Abs) (cs : List Nat) (kid : List Pr) (al : List Do) : Abs :=
  { a with n := a.n + 1, sc := put (put a.sc 0 al) a.n (kid.map .pr), ch := cs ++ a.ch, kn := put a.kn a.n [] }

/-- Goroutine i need not wait. -/
def Abs.Live (a : Abs) (i : Nat) : Prop :=
  (i = 0 ∧ a.sc i = []) ∨ (∃ c al, a.sc i = .pr (.cls c) :: al) ∨ (∃ T cs k al, a.sc i = .fork T cs k :: al) ∨ (∃ c al, a.sc i = .pr (.eof c) :: al ∧ a.shut c = true) ∨
  (∃ c v al j bs, j < a.n ∧ j ≠ i ∧ a.sc i = .pr (.snd c v) :: al ∧ a.sc j = .pr (.rcv c v) :: bs)

/-- WHAT IS ASKED OF AN INVARIANT OF ABSTRACT NETS. -/
structure Law (K : Abs → Prop) (rank : Abs → Nat) : Prop where
  pos : ∀ a, K a → 0 < a.n
  pass : ∀ a i j c v v' al bs, K a → i < a.n → j < a.n → a.sc i = .pr (.snd c v) :: al → a.sc j = .pr (.rcv c v') :: bs → i ≠ j ∧ v = v' ∧ K (a.pass i j al bs) ∧ rank (a.pass i j al bs) < rank a
  noEof : ∀ a i j c v al bs, K a → i < a.n → j < a.n → a.sc i = .pr (.snd c v) :: al → a.sc j ≠ .pr (.eof c) :: bs
  sndOpen : ∀ a i c v al, K a → i < a.n → a.sc i = .pr (.snd c v) :: al → c ∈ a.ch ∧ a.shut c = false
  rcvOpen : ∀ a i c v al, K a → i < a.n → a.sc i = .pr (.rcv c v) :: al → c ∈ a.ch ∧ a.shut c = false
  eofIn : ∀ a i c al, K a → i < a.n → a.sc i = .pr (.eof c) :: al → c ∈ a.ch
  sndOne : ∀ a i j c v v' al bs, K a → i < a.n → j < a.n → a.sc i = .pr (.snd c v) :: al → a.sc j = .pr (.snd c v') :: bs → i = j
  rcvOne : ∀ a i j c v v' al bs, K a → i < a.n → j < a.n → a.sc i = .pr (.rcv c v) :: al → a.sc j = .pr (.rcv c v') :: bs → i = j
  rcvEof : ∀ a i j c v al bs, K a → i < a.n → j < a.n → a.sc i = .pr (.rcv c v) :: al → a.sc j ≠ .pr (.eof c) :: bs
  eof : ∀ a i c al, K a → i < a.n → a.sc i = .pr (.eof c) :: al → a.shut c = true → K (a.seen i c al) ∧ rank (a.seen i c al) < rank a
  cls : ∀ a i c al, K a → i < a.n → a.sc i = .pr (.cls c) :: al → i ≠ 0 ∧ al = [] ∧ c ∈ a.ch ∧ a.shut c = false ∧ (∀ j v bs, j < a.n → a.sc j ≠ .pr (.rcv c v) :: bs) ∧ (∀ j v bs, j < a.n → a.sc j ≠ .pr (.snd c v) :: bs) ∧
    K (a.close i c) ∧ rank (a.close i c) < rank a
  fork : ∀ a i T cs kid al, K a → i < a.n → a.sc i = .fork T cs kid :: al → i = 0 ∧ kid ≠ [] ∧ (∀ c ∈ cs, a.shut c = false) ∧ K (a.fork cs kid al) ∧ rank (a.fork cs kid al) < rank a
  live : ∀ a, K a → ∃ i, i < a.n ∧ a.Live i
  last : ∀ a, K a → a.sc 0 = [] → ∀ j, j < a.n → j ≠ 0 → a.sc j = [] ∧ j ∈ a.kn 0

/-! ### the goroutines -/

/-- The block in which a place lies. -/
def blk : Loc → Option Nat
  | .cell a => some a.block
  | .obj r => some r
  | _ => none
def In (T : List Nat) (l : Loc) : Prop := (∃ b, blk l = some b ∧ b ∈ T) ∨ ∃ c, l = .obj c

/-- What an entry of a worker's may be (it reads blocks of T, and channels, alone), and one of goroutine 0's (it writes no block of T, and no map). -/
def EvW (T : List Nat) (e : Event) : Prop := (∀ m, e.loc = .mark m → Neutral m) ∧ ((∃ m, e.loc = .mark m) ∨ (e.write = false ∧ In T e.loc))
def EvM (T : List Nat) (e : Event) : Prop := (∀ m, e.loc = .mark m → Neutral m) ∧ (e.write = true → ¬ In T e.loc)

/-- What a worker suffers; what goroutine 0 suffers; what each does. -/
def RW (T : List Nat) (w w₁ : World) : Prop := ∀ b ∈ T, w₁.heap[b]? = w.heap[b]?
structure RC (ch : List Nat) (w w₁ : World) : Prop where
  tape : w₁.tape = w.tape
  os : w₁.os = w.os
  output : w₁.output = w.output
  size : w₁.heap.size = w.heap.size
  block : ∀ b, b ∉ ch → w₁.heap[b]? = w.heap[b]?
def DW (T : List Nat) (w w' : World) (es : Array Event) : Prop := w' = w ∧ ∀ e ∈ es, EvW T e
def DM (T ch : List Nat) (w w' : World) (es : Array Event) : Prop := (∀ b ∈ T, w'.heap[b]? = w.heap[b]?) ∧ (∀ b ∈ ch, w'.heap[b]? = w.heap[b]?) ∧ ∀ e ∈ es, EvM T e

theorem RW.refl (T : List Nat) (w : World) : RW T w w := fun _ _ => rfl
theorem RW.trans {T : List Nat} {a b c : World} (h : RW T a b) (h' : RW T b c) : RW T a c := fun k hk => (h' k hk).trans (h k hk)
theorem RC.refl (ch : List Nat) (w : World) : RC ch w w := ⟨rfl, rfl, rfl, rfl, fun _ _ => rfl⟩
theorem RC.trans {ch : List Nat} {a b c : World} (h : RC ch a b) (h' : RC ch b c) : RC ch a c :=
  ⟨h'.tape.trans h.tape, h'.os.trans h.os, h'.output.trans h.output, h'.size.trans h.size, fun k hk => (h'.block k hk).trans (h.block k hk)⟩
theorem RW.at (T : List Nat) (w : World) (d : Nat) : RW T w (w.at d) := fun _ _ => rfl
theorem RC.at (ch : List Nat) (w : World) (d : Nat) : RC ch w (w.at d) := ⟨rfl, rfl, rfl, rfl, fun _ _ => rfl⟩
theorem RW.put {T : List Nat} {c : Nat} (h : c ∉ T) (w : World) (o : Obj) : RW T w { w with heap := w.heap.setIfInBounds c o } := fun b hb => by
  have : c ≠ b := fun e => h (e ▸ hb)
  simp [this]
theorem RC.put {ch : List Nat} {c : Nat} (h : c ∈ ch) (w : World) (o : Obj) : RC ch w { w with heap := w.heap.setIfInBounds c o } :=
  ⟨rfl, rfl, rfl, by simp, fun b hb => by
    have : c ≠ b := fun e => hb (e ▸ h)
    simp [this]⟩

section
variable (P : Program) (z : Nat → Value)

/-- AT AN ACT. -/
def AtP (main : Bool) (R : World → World → Prop) (Ev : Event → Prop) (Next : Goroutine → World → Prop) (g : Goroutine) (w : World) : Pr → Prop
  | .snd c v => g.status = .running ∧ ∃ (g₂ : Goroutine) (z' : Value) (es : Array Event), stepG P main g w = .comm g₂ #[scase c v z'] true .send w es ∧ (∀ e ∈ es, Ev e) ∧ ∀ w₂, R w w₂ → Next (Go.Conc.served g₂ undef) w₂
  | .rcv c v => g.status = .running ∧ ∃ (es : Array Event), stepG P main g w = .comm (core g) #[rcase c (z c)] true (.recv true) w es ∧ (∀ e ∈ es, Ev e) ∧ ∀ w₂, R w w₂ → Next (Go.Conc.served (core g) (.tuple #[v, .bool true])) w₂
  | .eof c => g.status = .running ∧ ∃ (es : Array Event), stepG P main g w = .comm (core g) #[rcase c (z c)] true (.recv true) w es ∧ (∀ e ∈ es, Ev e) ∧ ∀ w₂, R w w₂ → Next (Go.Conc.served (core g) (.tuple #[z c, .bool false])) w₂
  | .cls c => g.status = .running ∧ mayWake P g = true ∧ ∀ s r tm, w.heap[c]? = some (.chan 0 #[] false s r tm) → ∃ (g₂ : Goroutine) (es : Array Event), stepG P main g w = .go g₂ (w.shut c s r tm) (es.push ⟨.obj c, true, true⟩) ∧
      (g₂.status = .running ∨ g₂.status = .finished) ∧ (∀ e ∈ es, Ev e) ∧ ∀ w₂, R w w₂ → Next g₂ w₂

def StopW (T : List Nat) (Next : Goroutine → World → Prop) (p : Pr) (g : Goroutine) (w : World) : Prop := AtP P z false (RW T) (EvW T) Next g w p

/-- A WORKER FOLLOWS ITS SCRIPT. -/
def FollowW (T : List Nat) : List Pr → Goroutine → World → Prop
  | [] => fun g _ => ∃ n, QuitsIn P n g
  | p :: ps => fun g w => ∃ n, Goes P false (RW T) (DW T) (StopW P z T (FollowW T ps) p) n g w

variable (Post : List Nat → List Nat → Goroutine → World → Prop)

/-- It stands where the script ends. -/
def AtEnd (T ch : List Nat) (g : Goroutine) (w : World) : Prop := g.status = .running ∧ Post T ch g w

def AtFork (T ch T' cs : List Nat) (kid : List Pr) (Next : Goroutine → World → Prop) (g : Goroutine) (w : World) : Prop :=
  g.status = .running ∧ ∃ g' child w' es, stepG P true g w = .spawn g' child w' es ∧ (∀ e ∈ es, EvM T e) ∧ (∀ b ∈ T, w'.heap[b]? = w.heap[b]?) ∧ (∀ b ∈ ch, w'.heap[b]? = w.heap[b]?) ∧
    (∀ c ∈ cs, c ∉ T' ++ T ∧ c ∉ ch ∧ ∃ s r tm, w'.heap[c]? = some (.chan 0 #[] false s r tm)) ∧ (∀ b ∈ T', b ∉ cs ++ ch) ∧ child.status = .running ∧ FollowW P z T' kid child w' ∧ Next g' w'

/-- GOROUTINE 0 FOLLOWS ITS SCRIPT; 'T': what the workers read; 'ch': the net's channels. -/
def FollowM : List Do → List Nat → List Nat → Goroutine → World → Prop
  | [] => fun T ch g w => ∃ n, Goes P true (RC ch) (DM T ch) (AtEnd Post T ch) n g w
  | .pr p :: al => fun T ch g w => ∃ n, Goes P true (RC ch) (DM T ch) (fun g' w' => AtP P z true (RC ch) (EvM T) (FollowM al T ch) g' w' p) n g w
  | .fork T' cs kid :: al => fun T ch g w => ∃ n, Goes P true (RC ch) (DM T ch) (AtFork P z T ch T' cs kid (FollowM al (T' ++ T) (cs ++ ch))) n g w

end
end Go.Proofs.Ytplndihadjfliaa.Net
/-
  A NET OF GOROUTINES: what holds of the trace.
-/
set_option linter.unusedSimpArgs false
set_option linter.unusedVariables false
namespace Go.Proofs.Ytplndihadjfliaa.Net
open Go Go.Conc Go.ConcN

abbrev NoSh : Loc → Prop := fun _ => False
abbrev NoOwn : Nat → Loc → Prop := fun _ _ => False
abbrev RdT (Ts : Nat → List Nat) : Nat → Loc → Prop := fun k l => In (Ts k) l
theorem apart (Ts : Nat → List Nat) : Apart NoSh NoOwn (RdT Ts) := ⟨fun _ _ _ h => h.elim, fun _ _ _ h => h.elim, fun _ _ h => h.elim, fun _ _ _ h => h⟩

structure Tr (Ts : Nat → List Nat) (a : Abs) (t : Trace) : Prop where
  wl : Wordless t
  ct : CT NoSh NoOwn (RdT Ts) t (a.n - 1)
  kn : ∀ i j, i < a.n → j ∈ a.kn i → j ≠ 0 ∧ j < a.n ∧ a.sc j = [] ∧ ∀ q op, t[q]? = some op → op.g = j → op.act.touch? ≠ none → Knows t i q
  kc : ∀ c, a.shut c = true → ∃ pc op, t[pc]? = some op ∧ op.act = .close c ∧ ∀ j ∈ a.kc c, j ≠ 0 ∧ j < a.n ∧ a.sc j = [] ∧ ∀ q op, t[q]? = some op → op.g = j → op.act.touch? ≠ none → Before t q pc

section
variable {Ts : Nat → List Nat} {a : Abs} {t u : Trace}

/-- The two families of facts on who knows what, where nobody who has ended touches anything. -/
theorem Tr.grow (h : Tr Ts a t) (hw : Wordless u) (hct : CT NoSh NoOwn (RdT Ts) (t ++ u) (a.n - 1)) (hu : ∀ op ∈ u, op.g ≠ 0 → a.sc op.g = [] → op.act.touch? = none) : Tr Ts a (t ++ u) := by
  refine ⟨h.wl.append hw, hct, fun i j hi hj => ?_, fun c hc => ?_⟩
  · obtain ⟨j0, jn, js, hk⟩ := h.kn i j hi hj
    refine ⟨j0, jn, js, fun q op hq hg ht => ?_⟩
    rcases getElem?_append_cases hq with ⟨_, hq'⟩ | ⟨_, hm⟩
    · exact (hk q op hq' hg ht).app u
    · exact absurd (hu op hm (by rw [hg]; exact j0) (by rw [hg]; exact js)) ht
  · obtain ⟨pc, op, hp, ha, hk⟩ := h.kc c hc
    refine ⟨pc, op, by rw [getElem?_append_old (lt_size_of_getElem? hp)]; exact hp, ha, fun j hj => ?_⟩
    obtain ⟨j0, jn, js, hk⟩ := hk j hj
    refine ⟨j0, jn, js, fun q op hq hg ht => ?_⟩
    rcases getElem?_append_cases hq with ⟨_, hq'⟩ | ⟨_, hm⟩
    · exact (hk q op hq' hg ht).app u
    · exact absurd (hu op hm (by rw [hg]; exact j0) (by rw [hg]; exact js)) ht

theorem Tr.own0 (h : Tr Ts a t) {T : List Nat} {fn : FuncId} {pos : String} {es : Array Event} (hT : ∀ k, k ≠ 0 → k < a.n → ∀ b ∈ Ts k, b ∈ T) (hes : ∀ e ∈ es, EvM T e) : Tr Ts a (t ++ MemOp.ofEvents 0 fn pos es) := by
  have hm : ∀ op ∈ MemOp.ofEvents 0 fn pos es, ∃ e ∈ es, op = { g := 0, fn, pos, act := .ofEvent e } := by
    intro op hop
    rw [ofEvents_eq] at hop
    obtain ⟨e, he, rfl⟩ := Array.mem_map.1 hop
    exact ⟨e, he, rfl⟩
  refine h.grow (fun op hop => ?_) (h.ct.app0 (apart Ts) fun op hop => ?_) (fun op hop h0 => ?_)
  · obtain ⟨e, he, rfl⟩ := hm op hop
    exact ofEvent_noMark (hes e he).1
  · obtain ⟨e, he, rfl⟩ := hm op hop
    refine ⟨rfl, fun x hx => .inr ⟨id, fun _ _ _ => id, fun hw k k1 kj hr => ?_⟩⟩
    obtain ⟨h1, h2⟩ := ofEvent_touch (hes e he).1 hx
    refine (hes e he).2 (h2 ▸ hw) ?_
    rcases hr with ⟨b, hb, hbT⟩ | ⟨c, hc⟩
    · exact .inl ⟨b, h1 ▸ hb, hT k (by omega) (by omega) b hbT⟩
    · exact .inr ⟨c, h1 ▸ hc⟩
  · obtain ⟨e, he, rfl⟩ := hm op hop
    exact absurd rfl h0

theorem Tr.ownW (h : Tr Ts a t) {k : Nat} (k0 : k ≠ 0) (kn : k < a.n) (hs : a.sc k ≠ []) {fn : FuncId} {pos : String} {es : Array Event} (hes : ∀ e ∈ es, EvW (Ts k) e) : Tr Ts a (t ++ MemOp.ofEvents k fn pos es) := by
  have hm : ∀ op ∈ MemOp.ofEvents k fn pos es, ∃ e ∈ es, op = { g := k, fn, pos, act := .ofEvent e } := by
    intro op hop
    rw [ofEvents_eq] at hop
    obtain ⟨e, he, rfl⟩ := Array.mem_map.1 hop
    exact ⟨e, he, rfl⟩
  refine h.grow (fun op hop => ?_) (h.ct.appW (apart Ts) (k := k) (by omega) (by omega) fun op hop => ?_) (fun op hop _ h1 => ?_)
  · obtain ⟨e, he, rfl⟩ := hm op hop
    exact ofEvent_noMark (hes e he).1
  · obtain ⟨e, he, rfl⟩ := hm op hop
    refine ⟨rfl, fun x hx => .inr (.inr ?_)⟩
    obtain ⟨h1, h2⟩ := ofEvent_touch (hes e he).1 hx
    rcases (hes e he).2 with ⟨m, hmk⟩ | ⟨hw, hin⟩
    · have hn := (hes e he).1 m hmk
      obtain ⟨loc, wr, sy⟩ := e
      simp only at hmk
      subst hmk
      have e1 : MemAct.ofEvent ⟨.mark m, wr, sy⟩ = .mark m := by cases wr <;> cases sy <;> rfl
      simp only [e1, hn.touch] at hx
      cases hx
    · exact ⟨by rw [h1]; exact hin, h2 ▸ hw⟩
  · obtain ⟨e, he, rfl⟩ := hm op hop
    exact absurd h1 hs

/-- Operations that touch no memory. -/
theorem Tr.silent (ops : List MemOp) : ∀ {t : Trace}, Tr Ts a t → 0 < a.n → (∀ op ∈ ops, op.g < a.n ∧ op.act.touch? = none ∧ ∀ m, op.act = .mark m → Neutral m) → Tr Ts a (t ++ ops.toArray) := by
  induction ops with
  | nil => intro t h _ _; simpa using h
  | cons x ops ih =>
    intro t h hn ho
    have e : t ++ (x :: ops).toArray = (t ++ #[x]) ++ ops.toArray := by apply Array.ext'; simp
    rw [e]
    obtain ⟨hg, ht, hm⟩ := ho x (by simp)
    have hx : ∀ op ∈ (#[x] : Trace), op = x := fun op hop => by simpa using hop
    have hct : CT NoSh NoOwn (RdT Ts) (t ++ #[x]) (a.n - 1) := by
      by_cases h0 : x.g = 0
      · exact h.ct.app0 (apart Ts) fun op hop => ⟨by rw [hx op hop]; exact h0, fun y hy => by rw [hx op hop, ht] at hy; cases hy⟩
      · exact h.ct.appW (apart Ts) (k := x.g) (by omega) (by omega) fun op hop => ⟨by rw [hx op hop], fun y hy => by rw [hx op hop, ht] at hy; cases hy⟩
    exact ih (h.grow (fun op hop m hmm => hm m (by rw [← hx op hop]; exact hmm)) hct fun op hop _ _ => by rw [hx op hop]; exact ht) hn fun op hop => ho op (by simp [hop])

theorem Tr.silent' (h : Tr Ts a t) (hn : 0 < a.n) (ops : Array MemOp) (ho : ∀ op ∈ ops, op.g < a.n ∧ op.act.touch? = none ∧ ∀ m, op.act = .mark m → Neutral m) : Tr Ts a (t ++ ops) := by
  have := Tr.silent ops.toList h hn fun op hop => ho op (by simpa using hop)
  simpa using this

/-- The scripts go on: whoever has ended has ended. -/
theorem Tr.pass (h : Tr Ts a t) {i j : Nat} {al bs : List Do} (hi : a.sc i ≠ []) (hj : a.sc j ≠ []) : Tr Ts (a.pass i j al bs) t := by
  have hs : ∀ k, a.sc k = [] → (a.pass i j al bs).sc k = [] := by
    intro k hk
    have h1 : k ≠ i := fun e => hi (e ▸ hk)
    have h2 : k ≠ j := fun e => hj (e ▸ hk)
    simp [Abs.pass, put, h1, h2, hk]
  refine ⟨h.wl, h.ct, fun i' j' hi' hj' => ?_, fun c hc => ?_⟩
  · obtain ⟨x1, x2, x3, x4⟩ := h.kn i' j' hi' hj'
    exact ⟨x1, x2, hs _ x3, x4⟩
  · obtain ⟨pc, op, y1, y2, y3⟩ := h.kc c hc
    exact ⟨pc, op, y1, y2, fun j' hj' => let ⟨x1, x2, x3, x4⟩ := y3 j' hj'; ⟨x1, x2, hs _ x3, x4⟩⟩

/-- Goroutine i has found channel c closed. -/
theorem Tr.seen (h : Tr Ts a t) {i c : Nat} {al : List Do} (hn : 0 < a.n) (hi : a.sc i ≠ []) (hin : i < a.n) (hc : a.shut c = true) {fn : FuncId} {pos : String} : Tr Ts (a.seen i c al) (t ++ #[{ g := i, fn, pos, act := .recvClosed c }]) := by
  have h' := h.silent' hn #[{ g := i, fn, pos, act := .recvClosed c }] (by simp [hin, MemAct.touch?])
  have hs : ∀ k, a.sc k = [] → (a.seen i c al).sc k = [] := by
    intro k hk
    have h1 : k ≠ i := fun e => hi (e ▸ hk)
    simp [Abs.seen, put, h1, hk]
  have hy : (t ++ #[({ g := i, fn, pos, act := .recvClosed c } : MemOp)])[t.size]? = some { g := i, fn, pos, act := .recvClosed c } := by simp
  refine ⟨h'.wl, h'.ct, fun i' j' hi' hj' => ?_, fun c' hc' => ?_⟩
  · by_cases hii : i' = i
    · subst hii
      simp only [Abs.seen, put, if_true, List.mem_append] at hj'
      rcases hj' with hj' | hj'
      · obtain ⟨pc, op, y1, y2, y3⟩ := h'.kc c hc
        obtain ⟨x1, x2, x3, x4⟩ := y3 j' hj'
        refine ⟨x1, x2, hs _ x3, fun q op' hq hg ht => ?_⟩
        have edge : HappensBefore (t ++ #[({ g := i', fn, pos, act := .recvClosed c } : MemOp)]) pc t.size :=
          .single (.inr ⟨.closed (c := c) (by rw [act?_of y1, y2]) (by rw [act?_of hy]), h'.wl.heard y1, h'.wl.heard hy⟩)
        exact ⟨t.size, _, hy, rfl, .inr ((x4 q op' hq hg ht).hb edge)⟩
      · obtain ⟨x1, x2, x3, x4⟩ := h'.kn i' j' hin hj'
        exact ⟨x1, x2, hs _ x3, x4⟩
    · simp only [Abs.seen, put, hii, if_false] at hj'
      obtain ⟨x1, x2, x3, x4⟩ := h'.kn i' j' hi' hj'
      exact ⟨x1, x2, hs _ x3, x4⟩
  · obtain ⟨pc, op, y1, y2, y3⟩ := h'.kc c' hc'
    exact ⟨pc, op, y1, y2, fun j' hj' => let ⟨x1, x2, x3, x4⟩ := y3 j' hj'; ⟨x1, x2, hs _ x3, x4⟩⟩

/-- Goroutine i has closed channel c, and is done. -/
theorem Tr.close (h : Tr Ts a t) {i c : Nat} (i0 : i ≠ 0) (hn : 0 < a.n) (hi : a.sc i ≠ []) (hin : i < a.n) {fn : FuncId} {pos : String} : Tr Ts (a.close i c) (t ++ #[{ g := i, fn, pos, act := .close c }]) := by
  have h' := h.silent' hn #[{ g := i, fn, pos, act := .close c }] (by simp [hin, MemAct.touch?])
  have hs : ∀ k, a.sc k = [] → (a.close i c).sc k = [] := by
    intro k hk
    have h1 : k ≠ i := fun e => hi (e ▸ hk)
    simp [Abs.close, put, h1, hk]
  have hsi : (a.close i c).sc i = [] := by simp [Abs.close, put]
  have hy : (t ++ #[({ g := i, fn, pos, act := .close c } : MemOp)])[t.size]? = some { g := i, fn, pos, act := .close c } := by simp
  refine ⟨h'.wl, h'.ct, fun i' j' hi' hj' => ?_, fun c' hc' => ?_⟩
  · obtain ⟨x1, x2, x3, x4⟩ := h'.kn i' j' hi' hj'
    exact ⟨x1, x2, hs _ x3, x4⟩
  · by_cases hcc : c' = c
    · subst hcc
      refine ⟨t.size, _, hy, rfl, fun j hj => ?_⟩
      have hj : j = i ∨ j ∈ a.kn i := by simpa [Abs.close, put] using hj
      have own : ∀ q op, (t ++ #[({ g := i, fn, pos, act := .close c' } : MemOp)])[q]? = some op → op.act.touch? ≠ none → q < t.size ∧ t[q]? = some op := by
        intro q op hq ht
        rcases getElem?_append_cases hq with h1 | ⟨_, hm⟩
        · exact h1
        · simp only [List.mem_toArray, List.mem_cons, List.not_mem_nil, or_false] at hm
          subst hm
          exact absurd rfl ht
      rcases hj with rfl | hj
      · refine ⟨i0, hin, hsi, fun q op hq hg ht => ?_⟩
        obtain ⟨hlt, hq'⟩ := own q op hq ht
        exact .inr (hb_po hlt hq hy hg)
      · obtain ⟨x1, x2, x3, x4⟩ := h.kn i j hin hj
        refine ⟨x1, x2, hs _ x3, fun q op hq hg ht => ?_⟩
        obtain ⟨hlt, hq'⟩ := own q op hq ht
        exact .inr ((x4 q op hq' hg ht).hb_new (Nat.le_refl _) hy rfl)
    · have hc2 : a.shut c' = true := by simpa [Abs.close, put, hcc] using hc'
      obtain ⟨pc, op, y1, y2, y3⟩ := h'.kc c' hc2
      refine ⟨pc, op, y1, y2, fun j' hj' => ?_⟩
      have hj' : j' ∈ a.kc c' := by simpa [Abs.close, put, hcc] using hj'
      obtain ⟨x1, x2, x3, x4⟩ := y3 j' hj'
      exact ⟨x1, x2, hs _ x3, x4⟩

/-- ALL IS HANDED OVER. -/
theorem Tr.handed (h : Tr Ts a t) (hn : 0 < a.n) (hk : ∀ j, j < a.n → j ≠ 0 → j ∈ a.kn 0) : t.HandedOver := by
  intro i g hg hne hc
  obtain ⟨x, hx, _, _⟩ := hc
  obtain ⟨op, ho, hxo⟩ := touch_of hx
  have hgo : op.g = g := by simpa [Trace.g?, ho] using hg
  have hlt : g < a.n := by have := h.ct.gs i op ho; omega
  obtain ⟨_, _, _, hkn⟩ := h.kn 0 g hn (hk g hlt hne)
  obtain ⟨q, y, hq, hy, hb⟩ := hkn i op ho hgo (by rw [hxo]; simp)
  refine ⟨q, by simp [Trace.g?, hq, hy], ?_⟩
  rcases hb with rfl | hb
  · rw [ho] at hq; cases hq; exact absurd (hgo.symm.trans hy) hne
  · exact hb

end
end Go.Proofs.Ytplndihadjfliaa.Net
/-
  A NET OF GOROUTINES: the trace at a go statement; where each goroutine stands.
-/
set_option linter.unusedSimpArgs false
set_option linter.unusedVariables false
namespace Go.Proofs.Ytplndihadjfliaa.Net
open Go Go.Conc Go.ConcN

theorem ct_congr {Sh : Loc → Prop} {Own Rd Rd' : Nat → Loc → Prop} {t : Trace} {j : Nat} (h : CT Sh Own Rd t j) (e : ∀ k, 1 ≤ k → k ≤ j → ∀ l, Rd' k l ↔ Rd k l) : CT Sh Own Rd' t j :=
  ⟨h.quiet, h.own, fun k k1 kj l hl => h.rd k k1 kj l ((e k k1 kj l).1 hl), fun l hs hl => h.free l hs fun k k1 kj => ⟨(hl k k1 kj).1, fun hr => (hl k k1 kj).2 ((e k k1 kj l).2 hr)⟩, h.mine, h.nr, h.gs⟩

section
variable {Ts : Nat → List Nat} {a : Abs} {t u : Trace}

theorem Tr.fork (h : Tr Ts a t) (hn : 0 < a.n) {T' cs : List Nat} {kid : List Pr} {al : List Do} (h0 : a.sc 0 ≠ []) (hcs : ∀ c ∈ cs, a.shut c = false) {fn fn' : FuncId} {pos pos' : String} :
    Tr (put Ts a.n T') (a.fork cs kid al) (t ++ #[{ g := 0, fn, pos, act := .go a.n }, { g := a.n, fn := fn', pos := pos', act := .start }]) := by
  have hd : ∀ g, Deaf t g = 0 := fun g => h.wl.deaf g _
  have hct := ct_congr (Rd' := RdT (put Ts a.n T')) h.ct fun k k1 kj l => by
    have : k ≠ a.n := by omega
    simp [RdT, put, this]
  have hj : a.n - 1 + 1 = a.n := by omega
  have hf := CT.fork (apart _) hct (x := { g := 0, fn, pos, act := .go a.n }) (y := { g := a.n, fn := fn', pos := pos', act := .start }) ⟨rfl, by rw [hj]⟩ ⟨by rw [hj], rfl⟩ (hd 0)
  rw [hj] at hf
  have hx : ∀ op ∈ (#[{ g := 0, fn, pos, act := .go a.n }, { g := a.n, fn := fn', pos := pos', act := .start }] : Trace), op.act.touch? = none ∧ ∀ m, op.act ≠ .mark m := by
    intro op hop
    simp only [List.mem_toArray, List.mem_cons, List.not_mem_nil, or_false] at hop
    rcases hop with rfl | rfl <;> simp [MemAct.touch?]
  have hs : ∀ k, k < a.n → a.sc k = [] → (a.fork cs kid al).sc k = [] := by
    intro k hk hk'
    have h1 : k ≠ 0 := fun e => h0 (e ▸ hk')
    have h2 : k ≠ a.n := by omega
    simp [Abs.fork, put, h1, h2, hk']
  have old : ∀ {q : Nat} {op : MemOp}, (t ++ #[({ g := 0, fn, pos, act := .go a.n } : MemOp), { g := a.n, fn := fn', pos := pos', act := .start }])[q]? = some op → op.act.touch? ≠ none → t[q]? = some op := by
    intro q op hq ht
    rcases getElem?_append_cases hq with ⟨_, hq'⟩ | ⟨_, hm⟩
    · exact hq'
    · exact absurd (hx op hm).1 ht
  refine ⟨h.wl.append fun op hop m hm => absurd hm ((hx op hop).2 m), hf, fun i j hi hjk => ?_, fun c hc => ?_⟩
  · by_cases hin : i = a.n
    · subst hin; simp [Abs.fork, put] at hjk
    · have hjk : j ∈ a.kn i := by simpa [Abs.fork, put, hin] using hjk
      obtain ⟨x1, x2, x3, x4⟩ := h.kn i j (by simp only [Abs.fork] at hi; omega) hjk
      exact ⟨x1, by simp only [Abs.fork]; omega, hs _ x2 x3, fun q op hq hg ht => (x4 q op (old hq ht) hg ht).app _⟩
  · obtain ⟨pc, op, y1, y2, y3⟩ := h.kc c hc
    refine ⟨pc, op, by rw [getElem?_append_old (lt_size_of_getElem? y1)]; exact y1, y2, fun j hj' => ?_⟩
    obtain ⟨x1, x2, x3, x4⟩ := y3 j hj'
    exact ⟨x1, by simp only [Abs.fork]; omega, hs _ x2 x3, fun q op hq hg ht => (x4 q op (old hq ht) hg ht).app _⟩
end

/-! ### where each stands -/
section
variable (P : Program) (z : Nat → Value) (Post : List Nat → List Nat → Goroutine → World → Prop) (T ch : List Nat) (Ts : Nat → List Nat)

def RR (i : Nat) : World → World → Prop := if i = 0 then RC ch else RW (Ts i)
def EE (i : Nat) : Event → Prop := if i = 0 then EvM T else EvW (Ts i)
def DD (i : Nat) : World → World → Array Event → Prop := if i = 0 then DM T ch else DW (Ts i)
def NN (i : Nat) (al : List Do) (g : Goroutine) (w : World) : Prop :=
  if i = 0 then FollowM P z Post al T ch g w else ∃ ps, al = ps.map .pr ∧ FollowW P z (Ts i) ps g w

def Park (i : Nat) (al : List Do) (g : Goroutine) (w : World) : Pr → Prop
  | .snd c v => ∃ (g₂ : Goroutine) (z' : Value), g = parked g₂ #[scase c v z'] .send ∧ ∀ w₂, RR ch Ts i w w₂ → NN P z Post T ch Ts i al (Go.Conc.served g₂ undef) w₂
  | .rcv c v => ∃ (g₀ : Goroutine), g = parked (core g₀) #[rcase c (z c)] (.recv true) ∧ ∀ w₂, RR ch Ts i w w₂ → NN P z Post T ch Ts i al (Go.Conc.served (core g₀) (.tuple #[v, .bool true])) w₂
  | .eof c => ∃ (g₀ : Goroutine), g = parked (core g₀) #[rcase c (z c)] (.recv true) ∧ ∀ w₁, RR ch Ts i w w₁ → AtP P z (i == 0) (RR ch Ts i) (EE T Ts i) (NN P z Post T ch Ts i al) g₀ w₁ (.eof c)
  | .cls _ => False

inductive Sit (i : Nat) : List Do → Option Nat → Goroutine → World → Prop
  | ret {n : Nat} {g : Goroutine} {w : World} : i = 0 → Goes P true (RC ch) (DM T ch) (AtEnd Post T ch) n g w → Sit i [] (some n) g w
  | fork {T' cs : List Nat} {kid : List Pr} {al : List Do} {n : Nat} {g : Goroutine} {w : World} : i = 0 → Goes P true (RC ch) (DM T ch) (AtFork P z T ch T' cs kid (FollowM P z Post al (T' ++ T) (cs ++ ch))) n g w →
      Sit i (.fork T' cs kid :: al) (some n) g w
  | quit {n : Nat} {g : Goroutine} {w : World} : i ≠ 0 → QuitsIn P n g → Sit i [] (some n) g w
  | run {p : Pr} {al : List Do} {n : Nat} {g : Goroutine} {w : World} : Goes P (i == 0) (RR ch Ts i) (DD T ch Ts i) (fun g w => AtP P z (i == 0) (RR ch Ts i) (EE T Ts i) (NN P z Post T ch Ts i al) g w p) n g w → Sit i (.pr p :: al) (some n) g w
  | park {p : Pr} {al : List Do} {g : Goroutine} {w : World} : Park P z Post T ch Ts i al g w p → Sit i (.pr p :: al) none g w

end

section
variable {P : Program} {z : Nat → Value} {Post : List Nat → List Nat → Goroutine → World → Prop} {T ch : List Nat} {Ts : Nat → List Nat} {i : Nat} {al : List Do} {f : Option Nat} {g : Goroutine} {w w₁ : World}

theorem RR.refl (i : Nat) (w : World) : RR ch Ts i w w := by
  unfold RR; split
  · exact RC.refl _ _
  · exact RW.refl _ _
theorem RR.trans {a b c : World} (h : RR ch Ts i a b) (h' : RR ch Ts i b c) : RR ch Ts i a c := by
  unfold RR at *
  split <;> rename_i e <;> simp only [e, if_true, if_false] at h h'
  · exact RC.trans h h'
  · exact RW.trans h h'
theorem RR.at (i : Nat) (w : World) (d : Nat) : RR ch Ts i w (w.at d) := by
  unfold RR; split
  · exact RC.at _ _ _
  · exact RW.at _ _ _
theorem RR.put {c : Nat} (hc : c ∈ ch) (hT : c ∉ Ts i) (w : World) (o : Obj) : RR ch Ts i w { w with heap := w.heap.setIfInBounds c o } := by
  unfold RR; split
  · exact RC.put hc _ _
  · exact RW.put hT _ _

theorem sit_of_NN (h : NN P z Post T ch Ts i al g w) : ∃ n, Sit P z Post T ch Ts i al (some n) g w := by
  unfold NN at h
  split at h
  · rename_i e
    subst e
    match al, h with
    | [], ⟨n, h⟩ => exact ⟨n, .ret rfl h⟩
    | .pr p :: al, ⟨n, h⟩ => exact ⟨n, .run h⟩
    | .fork T' cs kid :: al, ⟨n, h⟩ => exact ⟨n, .fork rfl h⟩
  · rename_i e
    obtain ⟨ps, rfl, h⟩ := h
    have hb : (i == 0) = false := by simpa using e
    match ps, h with
    | [], ⟨n, h⟩ => exact ⟨n, .quit e h⟩
    | p :: ps, ⟨n, h⟩ =>
      refine ⟨n, .run ?_⟩
      have e1 : RR ch Ts i = RW (Ts i) := by simp [RR, e]
      have e2 : DD T ch Ts i = DW (Ts i) := by simp [DD, e]
      have e3 : EE T Ts i = EvW (Ts i) := by simp [EE, e]
      have e4 : NN P z Post T ch Ts i (ps.map .pr) = FollowW P z (Ts i) ps := by
        funext g w
        simp only [NN, e, if_false, eq_iff_iff]
        constructor
        · rintro ⟨qs, hq, hf⟩
          have : ps = qs := by
            have hinj : ∀ (l l' : List Pr), l.map Do.pr = l'.map Do.pr → l = l' := by
              intro l
              induction l with
              | nil => intro l' h; cases l' with
                | nil => rfl
                | cons _ _ => cases h
              | cons x l ih => intro l' h; cases l' with
                | nil => cases h
                | cons y l' => simp only [List.map_cons, List.cons.injEq, Do.pr.injEq] at h; rw [h.1, ih l' h.2]
            exact hinj _ _ hq
          rw [this]; exact hf
        · intro hf; exact ⟨ps, rfl, hf⟩
      rw [hb, e1, e2, e3]
      exact e4 ▸ h

theorem Park.rely {p : Pr} (h : Park P z Post T ch Ts i al g w p) (hr : RR ch Ts i w w₁) : Park P z Post T ch Ts i al g w₁ p := by
  cases p with
  | snd c v => obtain ⟨g₂, z', e, hn⟩ := h; exact ⟨g₂, z', e, fun w₂ h₂ => hn w₂ (hr.trans h₂)⟩
  | rcv c v => obtain ⟨g₀, e, hn⟩ := h; exact ⟨g₀, e, fun w₂ h₂ => hn w₂ (hr.trans h₂)⟩
  | eof c => obtain ⟨g₀, e, hn⟩ := h; exact ⟨g₀, e, fun w₂ h₂ => hn w₂ (hr.trans h₂)⟩
  | cls c => exact h

theorem Sit.rely (h : Sit P z Post T ch Ts i al f g w) (hr : RR ch Ts i w w₁) : Sit P z Post T ch Ts i al f g w₁ := by
  cases h with
  | ret e h => subst e; exact .ret rfl (Goes.rely (R := RC ch) (fun _ _ _ h h' => RC.trans h h') h hr)
  | fork e h => subst e; exact .fork rfl (Goes.rely (R := RC ch) (fun _ _ _ h h' => RC.trans h h') h hr)
  | quit e h => exact .quit e h
  | run h => exact .run (Goes.rely (R := RR ch Ts i) (fun _ _ _ h h' => RR.trans h h') h hr)
  | park h => exact .park (h.rely hr)

theorem AtP.running {main : Bool} {R : World → World → Prop} {Ev : Event → Prop} {Next : Goroutine → World → Prop} {p : Pr} (h : AtP P z main R Ev Next g w p) : g.status = .running := by
  cases p <;> exact h.1

theorem Sit.status (h : Sit P z Post T ch Ts i al f g w) : (g.status = .running ∧ ∃ n, f = some n) ∨ (g.status = .finished ∧ i ≠ 0 ∧ al = [] ∧ ∃ n, f = some n) ∨ (g.status = .blocked ∧ f = none) := by
  cases h with
  | ret e h => exact .inl ⟨h.running (fun _ _ x => x.1) w (RC.refl _ _), _, rfl⟩
  | fork e h => exact .inl ⟨h.running (fun _ _ x => x.1) w (RC.refl _ _), _, rfl⟩
  | quit e h =>
    rcases h.status with h | h
    · exact .inl ⟨h, _, rfl⟩
    · exact .inr (.inl ⟨h, e, rfl, _, rfl⟩)
  | run h => exact .inl ⟨h.running (fun _ _ x => AtP.running x) w (RR.refl _ _), _, rfl⟩
  | park h =>
    rename_i p al
    cases p with
    | snd c v => obtain ⟨_, _, rfl, _⟩ := h; exact .inr (.inr ⟨rfl, rfl⟩)
    | rcv c v => obtain ⟨_, rfl, _⟩ := h; exact .inr (.inr ⟨rfl, rfl⟩)
    | eof c => obtain ⟨_, rfl, _⟩ := h; exact .inr (.inr ⟨rfl, rfl⟩)
    | cls c => exact h.elim

end
end Go.Proofs.Ytplndihadjfliaa.Net
/-
  A NET OF GOROUTINES: the invariant; somebody can run; an own step.
-/
set_option linter.unusedSimpArgs false
set_option linter.unusedVariables false
namespace Go.Proofs.Ytplndihadjfliaa.Net
open Go Go.Conc Go.ConcN

def fu : Option Nat → Nat
  | none => 0
  | some n => n + 1

section
variable (P : Program) (z : Nat → Value) (Post : List Nat → List Nat → Goroutine → World → Prop) (K : Abs → Prop)

structure Net (a : Abs) (f : Nat → Option Nat) (T : List Nat) (Ts : Nat → List Nat) (gs : Array Goroutine) (w : World) (t : Trace) : Prop where
  k : K a
  size : gs.size = a.n
  sit : ∀ i, i < a.n → ∃ g, gs[i]? = some g ∧ Sit P z Post T a.ch Ts i (a.sc i) (f i) g w
  chan : ∀ c, c ∈ a.ch → ∃ s r tm, w.heap[c]? = some (.chan 0 #[] (a.shut c) s r tm)
  sub : ∀ i, i ≠ 0 → i < a.n → ∀ b ∈ Ts i, b ∈ T
  apart : ∀ c, c ∈ a.ch → c ∉ T
  opn : ∀ i c al, i < a.n → f i = none → a.sc i = .pr (.eof c) :: al → a.shut c = false
  noMeet : ∀ i j c v v' al bs, i < a.n → j < a.n → f i = none → f j = none → a.sc i = .pr (.snd c v) :: al → a.sc j = .pr (.rcv c v') :: bs → False
  tr : Tr Ts a t

def mu (rank : Abs → Nat) (a : Abs) (f : Nat → Option Nat) : Nat × Nat := (rank a, sumTo a.n fun i => fu (f i))
end

section
variable {P : Program} {z : Nat → Value} {Post : List Nat → List Nat → Goroutine → World → Prop} {K : Abs → Prop} {rank : Abs → Nat} {a : Abs} {f : Nat → Option Nat} {T : List Nat} {Ts : Nat → List Nat} {gs : Array Goroutine} {w : World} {t : Trace}

theorem Sit.run_of {T ch : List Nat} {i n : Nat} {al : List Do} {g : Goroutine} (h : Sit P z Post T ch Ts i al (some n) g w) (hi : i = 0 ∨ al ≠ []) : g.status = .running := by
  rcases h.status with ⟨h, _⟩ | ⟨_, h0, h1, _⟩ | ⟨_, h⟩
  · exact h
  · rcases hi with hi | hi
    · exact absurd hi h0
    · exact absurd h1 hi
  · cases h

/-- Somebody can run. -/
theorem Net.someone (L : Law K rank) (N : Net P z Post K a f T Ts gs w t) : ∃ (i : Nat) (g : Goroutine), gs[i]? = some g ∧ g.status = .running := by
  obtain ⟨i, hi, hl⟩ := L.live a N.k
  have go : ∀ j n, j < a.n → f j = some n → (j = 0 ∨ a.sc j ≠ []) → ∃ (i : Nat) (g : Goroutine), gs[i]? = some g ∧ g.status = .running := by
    intro j n hj hf hor
    obtain ⟨g, hg, hs⟩ := N.sit j hj
    rw [hf] at hs
    exact ⟨j, g, hg, hs.run_of hor⟩
  cases hf : f i with
  | some n =>
    refine go i n hi hf ?_
    rcases hl with ⟨h, _⟩ | ⟨_, _, h⟩ | ⟨_, _, _, _, h⟩ | ⟨_, _, h, _⟩ | ⟨_, _, _, _, _, _, _, h, _⟩
    · exact .inl h
    all_goals exact .inr (by rw [h]; simp)
  | none =>
    obtain ⟨g, hg, hs⟩ := N.sit i hi
    rw [hf] at hs
    rcases hl with ⟨_, h⟩ | ⟨c, al, h⟩ | ⟨T', cs, kid, al, h⟩ | ⟨c, al, h, hc⟩ | ⟨c, v, al, j, bs, hj, _, h, h'⟩
    · rw [h] at hs; cases hs
    · rw [h] at hs
      cases hs with
      | park hp => exact hp.elim
    · rw [h] at hs; cases hs
    · have := N.opn i c al hi hf h
      rw [hc] at this; cases this
    · cases hfj : f j with
      | some n => exact go j n hj hfj (.inr (by rw [h']; simp))
      | none => exact (N.noMeet i j c v v al bs hi hj hf hfj h h').elim

/-- Whoever is parked waits at a channel of the net that is open. -/
theorem Net.waits (L : Law K rank) (N : Net P z Post K a f T Ts gs w t) {j : Nat} (hj : j < a.n) (hf : f j = none) {g : Goroutine} (hs : Sit P z Post T a.ch Ts j (a.sc j) (f j) g w) :
    ∃ p al c, a.sc j = .pr p :: al ∧ c ∈ a.ch ∧ a.shut c = false ∧
      ((∃ v g₂ z', p = .snd c v ∧ g = parked g₂ #[scase c v z'] .send) ∨ (∃ v g₀, p = .rcv c v ∧ g = parked (core g₀) #[rcase c (z c)] (.recv true)) ∨ (∃ g₀, p = .eof c ∧ g = parked (core g₀) #[rcase c (z c)] (.recv true))) := by
  rw [hf] at hs
  generalize hsc : a.sc j = s at hs
  cases hs with
  | park hp =>
    rename_i p al
    cases p with
    | snd c v =>
      obtain ⟨g₂, z', rfl, _⟩ := hp
      obtain ⟨h1, h2⟩ := L.sndOpen a j c v al N.k hj hsc
      exact ⟨_, _, c, rfl, h1, h2, .inl ⟨v, g₂, z', rfl, rfl⟩⟩
    | rcv c v =>
      obtain ⟨g₀, rfl, _⟩ := hp
      obtain ⟨h1, h2⟩ := L.rcvOpen a j c v al N.k hj hsc
      exact ⟨_, _, c, rfl, h1, h2, .inr (.inl ⟨v, g₀, rfl, rfl⟩)⟩
    | eof c =>
      obtain ⟨g₀, rfl, _⟩ := hp
      exact ⟨_, _, c, rfl, L.eofIn a j c al N.k hj hsc, N.opn j c al hj hf hsc, .inr (.inr ⟨g₀, rfl, rfl⟩)⟩
    | cls c => exact hp.elim

/-- A step of another's that leaves the channels: nobody is let try again. -/
theorem Net.stay (L : Law K rank) (N : Net P z Post K a f T Ts gs w t) {w' : World} (hch : ∀ c, c ∈ a.ch → ∃ s r tm, w'.heap[c]? = some (.chan 0 #[] (a.shut c) s r tm)) {j : Nat} (hj : j < a.n) {g : Goroutine} (hs : Sit P z Post T a.ch Ts j (a.sc j) (f j) g w) (x x' : Goroutine) :
    woken P x x' w' g = g := by
  cases hf : f j with
  | some n =>
    have : g.status = .running ∨ g.status = .finished := by
      rcases hs.status with ⟨h, _⟩ | ⟨h, _⟩ | ⟨_, h⟩
      · exact .inl h
      · exact .inr h
      · rw [hf] at h; cases h
    unfold woken
    split
    · exact again_running _ this
    · rfl
  | none =>
    obtain ⟨p, al, c, _, hc, ho, h⟩ := N.waits L hj hf hs
    obtain ⟨s, r, tm, hcc⟩ := hch c hc
    rw [ho] at hcc
    rcases h with ⟨v, g₂, z', _, rfl⟩ | ⟨v, g₀, _, rfl⟩ | ⟨g₀, _, rfl⟩
    · exact woken_send_open _ _ hcc
    · exact woken_recv_open _ _ hcc
    · exact woken_recv_open _ _ hcc

theorem Net.awake (N : Net P z Post K a f T Ts gs w t) : ∀ g ∈ gs, awake g := by
  intro g hg
  obtain ⟨i, hi, rfl⟩ := Array.mem_iff_getElem.1 hg
  obtain ⟨g', hg', hs⟩ := N.sit i (by rw [← N.size]; exact hi)
  have : gs[i] = g' := by rw [Array.getElem?_eq_getElem hi] at hg'; exact Option.some.inj hg'
  rw [this]
  refine awake_of ?_
  rcases hs.status with ⟨h, _⟩ | ⟨h, _⟩ | ⟨h, _⟩
  · exact .inl h
  · exact .inr (.inr h)
  · exact .inr (.inl h)

theorem get_map_set {α : Type} (gs : Array α) (F : α → α) (i j : Nat) (x y : α) (h : gs[j]? = some y) : ((gs.map F).setIfInBounds i x)[j]? = some (if j = i then x else F y) := by
  obtain ⟨hlt, rfl⟩ := Array.getElem?_eq_some_iff.1 h
  by_cases hij : i = j
  · subst hij; simp [hlt]
  · have : j ≠ i := fun e => hij e.symm
    rw [Array.getElem?_setIfInBounds_ne hij, if_neg this]; simp [hlt]

/-- AN OWN STEP of goroutine i: its script stands, its count falls. -/
theorem Net.own (L : Law K rank) (N : Net P z Post K a f T Ts gs w t) {i n n' d : Nat} {sl : Option (Nat × Nat)} {g g' : Goroutine} {w' : World} {es : Array Event} (hi : i < a.n) (hg : gs[i]? = some g) (hf : f i = some n) (hn : n' < n)
    (h : stepG P (i == 0) g (w.at d) = .go g' w' es) (hR : ∀ j, j ≠ i → j < a.n → RR a.ch Ts j (w.at d) w') (hch : ∀ c, c ∈ a.ch → w'.heap[c]? = w.heap[c]?)
    (hs : Sit P z Post T a.ch Ts i (a.sc i) (some n') g' w') (ht : Tr Ts a (t ++ MemOp.ofEvents i g.frame.fn g.frame.place es)) :
    ∃ gs' f', runT P (crowd gs (w.at d) sl) i = (.next (crowd gs' w' sl), MemOp.ofEvents i g.frame.fn g.frame.place es) ∧ Lt2 (mu rank a f') (mu rank a f) ∧ Net P z Post K a f' T Ts gs' w' (t ++ MemOp.ofEvents i g.frame.fn g.frame.place es) ∧ ∀ j x, j ≠ i → gs[j]? = some x → gs'[j]? = some x := by
  have hch' : ∀ c, c ∈ a.ch → ∃ s r tm, w'.heap[c]? = some (.chan 0 #[] (a.shut c) s r tm) := fun c hc => by rw [hch c hc]; exact N.chan c hc
  refine ⟨_, put f i (some n'), runT_crowd_go hg h, .right _ ?_, ⟨N.k, by simp [N.size], fun j hj => ?_, hch', N.sub, N.apart, fun j c al hj hfj hsj => ?_, fun j k c v v' al bs hj hk hfj hfk => ?_, ht⟩, fun j x hji hx => ?_⟩
  · have := sumTo_upd (j := a.n) f (some n') fu hi
    simp only [upd] at this
    have e : (fun a_1 => fu (put f i (some n') a_1)) = fun a_1 => fu (if a_1 = i then some n' else f a_1) := by funext x; rfl
    rw [e]
    have hfi : fu (f i) = n + 1 := by rw [hf]; rfl
    have hfn : fu (some n') = n' + 1 := rfl
    omega
  · obtain ⟨y, hy, hsy⟩ := N.sit j hj
    refine ⟨_, get_map_set gs _ i j g' y hy, ?_⟩
    by_cases hji : j = i
    · subst hji; simp only [if_true, put]; exact hs
    · simp only [hji, if_false, put]
      rw [N.stay L hch' hj hsy]
      exact hsy.rely ((RR.at j w d).trans (hR j hji hj))
  · by_cases hji : j = i
    · subst hji; simp [put] at hfj
    · simp only [put, hji, if_false] at hfj; exact N.opn j c al hj hfj hsj
  · have h1 : j ≠ i := by rintro rfl; simp [put] at hfj
    have h2 : k ≠ i := by rintro rfl; simp [put] at hfk
    simp only [put, h1, h2, if_false] at hfj hfk
    exact N.noMeet j k c v v' al bs hj hk hfj hfk
  · have hj : j < a.n := by rw [← N.size]; exact (Array.getElem?_eq_some_iff.1 hx).1
    obtain ⟨y, hy, hsy⟩ := N.sit j hj
    rw [hx] at hy
    obtain rfl := Option.some.inj hy
    rw [get_map_set gs _ i j g' x hx, if_neg hji, N.stay L hch' hj hsy]

end
end Go.Proofs.Ytplndihadjfliaa.Net
/-
  A NET OF GOROUTINES: who offers what; a value passes; a goroutine waits.
-/
set_option linter.unusedSimpArgs false
set_option linter.unusedVariables false
namespace Go.Proofs.Ytplndihadjfliaa.Net
open Go Go.Conc Go.ConcN

section
variable {P : Program} {z : Nat → Value} {Post : List Nat → List Nat → Goroutine → World → Prop} {K : Abs → Prop} {rank : Abs → Nat} {a : Abs} {f : Nat → Option Nat} {T : List Nat} {Ts : Nat → List Nat} {gs : Array Goroutine} {w : World} {t : Trace}

theorem Net.offers (L : Law K rank) (N : Net P z Post K a f T Ts gs w t) {k : Nat} {x : Goroutine} (hx : gs[k]? = some x) (r : Nat) :
    (offersAt x r true = [] ∨ (f k = none ∧ ∃ v g₂ z' al, a.sc k = .pr (.snd r v) :: al ∧ x = parked g₂ #[scase r v z'] .send)) ∧
    (offersAt x r false = [] ∨ (f k = none ∧ ∃ al, (∃ v g₀, a.sc k = .pr (.rcv r v) :: al ∧ x = parked (core g₀) #[rcase r (z r)] (.recv true)) ∨ a.sc k = .pr (.eof r) :: al)) := by
  have hk : k < a.n := by rw [← N.size]; exact (Array.getElem?_eq_some_iff.1 hx).1
  obtain ⟨x', hx', hs⟩ := N.sit k hk
  rw [hx] at hx'
  cases hx'
  cases hf : f k with
  | some n =>
    have : x.status ≠ .blocked := by
      rcases hs.status with ⟨h, _⟩ | ⟨h, _⟩ | ⟨_, h⟩
      · rw [h]; simp
      · rw [h]; simp
      · rw [hf] at h; cases h
    exact ⟨.inl (offersAt_of_not_blocked this _ _), .inl (offersAt_of_not_blocked this _ _)⟩
  | none =>
    obtain ⟨p, al, c, hsc, hc, ho, h⟩ := N.waits L hk hf hs
    rcases h with ⟨v, g₂, z', rfl, rfl⟩ | ⟨v, g₀, rfl, rfl⟩ | ⟨g₀, rfl, rfl⟩
    · refine ⟨?_, .inl (offersAt_parked_send' _ _ _ _ _ _)⟩
      by_cases hcr : c = r
      · subst hcr; exact .inr ⟨rfl, v, g₂, z', al, hsc, rfl⟩
      · exact .inl (by rw [offersAt_parked_send, if_neg hcr])
    · refine ⟨.inl (offersAt_parked_recv' _ _ _ _ _), ?_⟩
      by_cases hcr : c = r
      · subst hcr; exact .inr ⟨rfl, al, .inl ⟨v, g₀, hsc, rfl⟩⟩
      · exact .inl (by rw [offersAt_parked_recv, if_neg hcr])
    · refine ⟨.inl (offersAt_parked_recv' _ _ _ _ _), ?_⟩
      by_cases hcr : c = r
      · subst hcr; exact .inr ⟨rfl, al, .inr hsc⟩
      · exact .inl (by rw [offersAt_parked_recv, if_neg hcr])

/-- The partners of goroutine i at channel r. -/
theorem Net.noPartner (N : Net P z Post K a f T Ts gs w t) {i r : Nat} {send : Bool} (h : ∀ k x, k ≠ i → gs[k]? = some x → offersAt x r send = []) : partners (gs.setIfInBounds i ph) r send = [] := by
  refine partners_nil fun j g hj => ?_
  rcases getElem?_stand gs i j g hj with ⟨_, rfl⟩ | ⟨hji, hj'⟩
  · exact offersAt_ph _ _
  · exact h j g hji hj'

theorem Net.onePartner (N : Net P z Post K a f T Ts gs w t) {i j r : Nat} {send : Bool} {y : Goroutine} (hji : j ≠ i) (hj : gs[j]? = some y) (hy : offersAt y r send = [0]) (h : ∀ k x, k ≠ i → k ≠ j → gs[k]? = some x → offersAt x r send = []) :
    partners (gs.setIfInBounds i ph) r send = [(j, 0)] := by
  rw [partners_one (j := j) (g := y) (stand_get hji hj) fun k x hk hx => ?_, hy]
  · rfl
  · rcases getElem?_stand gs i k x hx with ⟨_, rfl⟩ | ⟨hki, hk'⟩
    · exact offersAt_ph _ _
    · exact h k x hki hk hk'

theorem lt_rank {a' : Abs} {f' : Nat → Option Nat} (h : rank a' < rank a) : Lt2 (mu rank a' f') (mu rank a f) := .left _ _ h

/-- A VALUE PASSES from goroutine i to goroutine j. -/
theorem Net.passed (L : Law K rank) (N : Net P z Post K a f T Ts gs w t) {i j c d s r : Nat} {tm : Bool} {v v' : Value} {al bs : List Do} {gi gj : Goroutine} {gs' : Array Goroutine} {t' : Trace} (hi : i < a.n) (hj : j < a.n)
    (hsi : a.sc i = .pr (.snd c v) :: al) (hsj : a.sc j = .pr (.rcv c v') :: bs)
    (hgi : gs'[i]? = some gi) (hgj : gs'[j]? = some gj) (hgs : ∀ k, k ≠ i → k ≠ j → gs'[k]? = gs[k]?) (hsz : gs'.size = gs.size)
    (hni : NN P z Post T a.ch Ts i al gi ((w.at d).setChan c 0 #[] false s r tm)) (hnj : NN P z Post T a.ch Ts j bs gj ((w.at d).setChan c 0 #[] false s r tm)) (ht : Tr Ts a t') :
    ∃ f', Lt2 (mu rank (a.pass i j al bs) f') (mu rank a f) ∧ Net P z Post K (a.pass i j al bs) f' T Ts gs' ((w.at d).setChan c 0 #[] false s r tm) t' := by
  obtain ⟨hne, rfl, hK, hrk⟩ := L.pass a i j c v v' al bs N.k hi hj hsi hsj
  obtain ⟨hc, ho⟩ := L.sndOpen a i c v al N.k hi hsi
  obtain ⟨ni, hni⟩ := sit_of_NN hni
  obtain ⟨nj, hnj⟩ := sit_of_NN hnj
  obtain ⟨s0, r0, tm0, hcb⟩ := N.chan c hc
  have hsc : ∀ k, k ≠ i → k ≠ j → (a.pass i j al bs).sc k = a.sc k := fun k h1 h2 => by simp [Abs.pass, put, h1, h2]
  have hsci : (a.pass i j al bs).sc i = al := by simp [Abs.pass, put, hne]
  have hscj : (a.pass i j al bs).sc j = bs := by simp [Abs.pass, put]
  have hRk : ∀ k, k < a.n → RR a.ch Ts k w ((w.at d).setChan c 0 #[] false s r tm) := by
    intro k hk
    by_cases hk0 : k = 0
    · subst hk0
      have : RC a.ch (w.at d) ((w.at d).setChan c 0 #[] false s r tm) := RC.put hc _ _
      exact (RR.at _ _ _).trans (by simpa [RR] using this)
    · have : RW (Ts k) (w.at d) ((w.at d).setChan c 0 #[] false s r tm) := RW.put (fun h => N.apart c hc (N.sub k hk0 hk c h)) _ _
      exact (RR.at _ _ _).trans (by simpa [RR, hk0] using this)
  refine ⟨put (put f i (some ni)) j (some nj), lt_rank hrk, hK, by rw [hsz]; exact N.size, fun k hk => ?_, fun c' hc' => ?_, N.sub, N.apart, fun k c' ds hk hfk hsk => ?_, fun k l c' u u' ds es hk hl hfk hfl hsk hsl => ?_, ht.pass (by rw [hsi]; simp) (by rw [hsj]; simp)⟩
  · by_cases hki : k = i
    · subst hki
      exact ⟨gi, hgi, by rw [hsci]; simp only [put, hne, if_false, if_true]; exact hni⟩
    · by_cases hkj : k = j
      · subst hkj
        exact ⟨gj, hgj, by rw [hscj]; simp only [put, if_true]; exact hnj⟩
      · obtain ⟨x, hx, hsx⟩ := N.sit k hk
        refine ⟨x, by rw [hgs k hki hkj]; exact hx, ?_⟩
        rw [hsc k hki hkj]
        simp only [put, hki, hkj, if_false]
        exact hsx.rely (hRk k hk)
  · by_cases hcc : c' = c
    · subst hcc
      refine ⟨s, r, tm, ?_⟩
      show _ = some (Obj.chan 0 #[] (a.shut c') s r tm)
      rw [ho]
      exact heap_put hcb
    · obtain ⟨s1, r1, tm1, h1⟩ := N.chan c' hc'
      refine ⟨s1, r1, tm1, ?_⟩
      have : c ≠ c' := fun e => hcc e.symm
      show ((w.at d).setChan c 0 #[] false s r tm).heap[c']? = some (.chan 0 #[] (a.shut c') s1 r1 tm1)
      rw [← h1]
      simp [World.setChan, World.at, this]
  · have h1 : k ≠ i := by rintro rfl; simp [put, hne] at hfk
    have h2 : k ≠ j := by rintro rfl; simp [put] at hfk
    simp only [put, h1, h2, if_false] at hfk
    rw [hsc k h1 h2] at hsk
    exact N.opn k c' ds hk hfk hsk
  · have h1 : k ≠ i := by rintro rfl; simp [put, hne] at hfk
    have h2 : k ≠ j := by rintro rfl; simp [put] at hfk
    have h3 : l ≠ i := by rintro rfl; simp [put, hne] at hfl
    have h4 : l ≠ j := by rintro rfl; simp [put] at hfl
    simp only [put, h1, h2, h3, h4, if_false] at hfk hfl
    rw [hsc k h1 h2] at hsk
    rw [hsc l h3 h4] at hsl
    exact N.noMeet k l c' u u' ds es hk hl hfk hfl hsk hsl

/-- GOROUTINE i WAITS. -/
theorem Net.parks (L : Law K rank) (N : Net P z Post K a f T Ts gs w t) {i n d : Nat} {p : Pr} {al : List Do} {g' : Goroutine} {t' : Trace} (hi : i < a.n) (hf : f i = some n) (hsi : a.sc i = .pr p :: al)
    (hp : Park P z Post T a.ch Ts i al g' (w.at d) p) (ho : ∀ c, p = .eof c → a.shut c = false)
    (h1 : ∀ c v j v' bs, p = .snd c v → j < a.n → f j = none → a.sc j ≠ .pr (.rcv c v') :: bs) (h2 : ∀ c v j v' bs, p = .rcv c v → j < a.n → f j = none → a.sc j ≠ .pr (.snd c v') :: bs) (ht : Tr Ts a t') :
    ∃ f', Lt2 (mu rank a f') (mu rank a f) ∧ Net P z Post K a f' T Ts (gs.setIfInBounds i g') (w.at d) t' := by
  refine ⟨put f i none, .right _ ?_, N.k, by simp [N.size], fun k hk => ?_, N.chan, N.sub, N.apart, fun k c ds hk hfk hsk => ?_, fun k l c u u' ds es hk hl hfk hfl hsk hsl => ?_, ht⟩
  · have := sumTo_upd (j := a.n) f none fu hi
    simp only [upd] at this
    have e : (fun a_1 => fu (put f i none a_1)) = fun a_1 => fu (if a_1 = i then none else f a_1) := by funext x; rfl
    rw [e]
    have hfi : fu (f i) = n + 1 := by rw [hf]; rfl
    have hfn : fu none = 0 := rfl
    omega
  · by_cases hki : k = i
    · subst hki
      have hlt : k < gs.size := by rw [N.size]; exact hk
      refine ⟨g', by simp [hlt], ?_⟩
      rw [hsi]
      simp only [put, if_true]
      exact .park hp
    · obtain ⟨x, hx, hsx⟩ := N.sit k hk
      have : i ≠ k := fun e => hki e.symm
      refine ⟨x, by rw [Array.getElem?_setIfInBounds_ne this]; exact hx, ?_⟩
      simp only [put, hki, if_false]
      exact hsx.rely (RR.at _ _ _)
  · by_cases hki : k = i
    · subst hki
      rw [hsi] at hsk
      cases hsk
      exact ho c rfl
    · simp only [put, hki, if_false] at hfk
      exact N.opn k c ds hk hfk hsk
  · by_cases hki : k = i
    · subst hki
      by_cases hli : l = k
      · subst hli; rw [hsk] at hsl; cases hsl
      · simp only [put, hli, if_false] at hfl
        rw [hsi] at hsk
        cases hsk
        exact h1 c u l u' es rfl hl hfl hsl
    · simp only [put, hki, if_false] at hfk
      by_cases hli : l = i
      · subst hli
        rw [hsi] at hsl
        cases hsl
        exact h2 c u' k u ds rfl hk hfk hsk
      · simp only [put, hli, if_false] at hfl
        exact N.noMeet k l c u u' ds es hk hl hfk hfl hsk hsl

end
end Go.Proofs.Ytplndihadjfliaa.Net
/-
  A NET OF GOROUTINES: a goroutine at a send, at a receive.
-/
set_option linter.unusedSimpArgs false
set_option linter.unusedVariables false
namespace Go.Proofs.Ytplndihadjfliaa.Net
open Go Go.Conc Go.ConcN

section
variable (P : Program) (z : Nat → Value) (Post : List Nat → List Nat → Goroutine → World → Prop) (K : Abs → Prop) (rank : Abs → Nat)
inductive Inv : Nat × Nat → Machine → Trace → Prop
  | mk {a : Abs} {f : Nat → Option Nat} {T : List Nat} {Ts : Nat → List Nat} {gs : Array Goroutine} {w : World} {t : Trace} (sl : Option (Nat × Nat)) : Net P z Post K a f T Ts gs w t → Inv (mu rank a f) (crowd gs w sl) t
end

section
variable {P : Program} {z : Nat → Value} {Post : List Nat → List Nat → Goroutine → World → Prop} {K : Abs → Prop} {rank : Abs → Nat} {a : Abs} {f : Nat → Option Nat} {T : List Nat} {Ts : Nat → List Nat} {gs : Array Goroutine} {w : World} {t : Trace}

theorem Net.rput (N : Net P z Post K a f T Ts gs w t) {k c : Nat} (hk : k < a.n) (hc : c ∈ a.ch) (w0 : World) (o : Obj) : RR a.ch Ts k w0 { w0 with heap := w0.heap.setIfInBounds c o } := by
  by_cases hk0 : k = 0
  · subst hk0
    simpa [RR] using RC.put hc w0 o
  · simpa [RR, hk0] using RW.put (fun h => N.apart c hc (N.sub k hk0 hk c h)) w0 o

theorem Net.evs (N : Net P z Post K a f T Ts gs w t) {i : Nat} (hi : i < a.n) (hs : i = 0 ∨ a.sc i ≠ []) {fn : FuncId} {pos : String} {es : Array Event} (hes : ∀ e ∈ es, EE T Ts i e) : Tr Ts a (t ++ MemOp.ofEvents i fn pos es) := by
  by_cases h0 : i = 0
  · subst h0
    exact N.tr.own0 (T := T) (fun k k0 hk b hb => N.sub k k0 hk b hb) (by simpa [EE] using hes)
  · exact N.tr.ownW h0 hi (hs.resolve_left h0) (by simpa [EE, h0] using hes)

theorem Net.parkedAt (N : Net P z Post K a f T Ts gs w t) {j : Nat} {p : Pr} {bs : List Do} (hj : j < a.n) (hf : f j = none) (hs : a.sc j = .pr p :: bs) : ∃ y, gs[j]? = some y ∧ Park P z Post T a.ch Ts j bs y w p := by
  obtain ⟨y, hy, h⟩ := N.sit j hj
  rw [hf, hs] at h
  cases h with
  | park hp => exact ⟨y, hy, hp⟩

theorem Net.atSnd (L : Law K rank) (N : Net P z Post K a f T Ts gs w t) {i n c d : Nat} {v : Value} {al : List Do} {sl : Option (Nat × Nat)} {g : Goroutine} (hi : i < a.n) (hg : gs[i]? = some g) (hf : f i = some n) (hsi : a.sc i = .pr (.snd c v) :: al)
    (hat : AtP P z (i == 0) (RR a.ch Ts i) (EE T Ts i) (NN P z Post T a.ch Ts i al) g (w.at d) (.snd c v)) :
    ∃ m' ops μ', runT P (crowd gs (w.at d) sl) i = (.next m', ops) ∧ Lt2 μ' (mu rank a f) ∧ Inv P z Post K rank μ' m' (t ++ ops) := by
  obtain ⟨hrun, g₂, z', es, hst, hes, hnext⟩ := hat
  obtain ⟨hc, ho⟩ := L.sndOpen a i c v al N.k hi hsi
  obtain ⟨s, r, tm, hcb⟩ := N.chan c hc
  rw [ho] at hcb
  have hcb' : (w.at d).heap[c]? = some (.chan 0 #[] false s r tm) := hcb
  have hne : a.sc i ≠ [] := by rw [hsi]; simp
  have htr := N.evs (fn := g.frame.fn) (pos := g.frame.place) hi (.inr hne) hes
  have hpos := L.pos a N.k
  by_cases hm : ∃ j v' bs, j < a.n ∧ f j = none ∧ a.sc j = .pr (.rcv c v') :: bs
  · obtain ⟨j, v', bs, hj, hfj, hsj⟩ := hm
    obtain ⟨hij, hv, _, _⟩ := L.pass a i j c v v' al bs N.k hi hj hsi hsj
    subst hv
    obtain ⟨y, hy, g₀, rfl, hnj⟩ := N.parkedAt hj hfj hsj
    have hji : j ≠ i := fun e => hij e.symm
    have hp := N.onePartner (send := false) hji hy (r := c) (by rw [offersAt_parked_recv]; simp) fun k x hki hkj hx => by
      have hk : k < a.n := by rw [← N.size]; exact (Array.getElem?_eq_some_iff.1 hx).1
      rcases (N.offers L hx c).2 with h | ⟨_, ds, ⟨u, g₁, hsk, _⟩ | hsk⟩
      · exact h
      · exact absurd (L.rcvOne a k j c u v ds bs N.k hk hj hsk hsj) hkj
      · exact absurd hsk (L.noEof a i k c v al ds N.k hi hk hsi)
    have hstep := crowd_send_meets (sl := sl) hg hst hcb' hji hy hp
    have hlt : i < gs.size := (Array.getElem?_eq_some_iff.1 hg).1
    have hltj : j < gs.size := (Array.getElem?_eq_some_iff.1 hy).1
    obtain ⟨f', hl, hN⟩ := Net.passed (d := d) (s := s + 1) (r := r + 1) (tm := tm) (gi := Go.Conc.served g₂ undef) (gj := Go.Conc.served (core g₀) (.tuple #[v, .bool true]))
      (gs' := (gs.setIfInBounds j (Go.Conc.served (core g₀) (.tuple #[v, .bool true]))).setIfInBounds i (Go.Conc.served g₂ undef)) L N hi hj hsi hsj
      (by simp [hlt]) (by rw [Array.getElem?_setIfInBounds_ne hij]; simp [hltj]) (fun k h1 h2 => by rw [Array.getElem?_setIfInBounds_ne (fun e => h1 e.symm), Array.getElem?_setIfInBounds_ne (fun e => h2 e.symm)]) (by simp)
      (hnext _ (N.rput hi hc _ _)) (hnj _ ((RR.at _ _ _).trans (N.rput hj hc _ _)))
      (htr.silent' hpos #[{ g := i, fn := g₂.frame.fn, pos := g₂.frame.place, act := .send c s }, { g := j, fn := (core g₀).frame.fn, pos := (core g₀).frame.place, act := .recv c r 0 },
        { g := i, fn := g₂.frame.fn, pos := g₂.frame.place, act := .sendDone c s }, { g := j, fn := (core g₀).frame.fn, pos := (core g₀).frame.place, act := .recvDone c r }] (by simp [hi, hj, MemAct.touch?]))
    refine ⟨_, _, _, hstep, hl, ?_⟩
    rw [← Array.append_assoc]
    exact .mk sl hN
  · have hp := N.noPartner (i := i) (r := c) (send := false) fun k x hki hx => by
      have hk : k < a.n := by rw [← N.size]; exact (Array.getElem?_eq_some_iff.1 hx).1
      rcases (N.offers L hx c).2 with h | ⟨hfk, ds, ⟨u, g₁, hsk, _⟩ | hsk⟩
      · exact h
      · exact absurd ⟨k, u, ds, hk, hfk, hsk⟩ hm
      · exact absurd hsk (L.noEof a i k c v al ds N.k hi hk hsi)
    have hstep := crowd_waits (sl := sl) hg hst fun cc hcc => by
      simp only [List.mem_toArray, List.mem_cons, List.not_mem_nil, or_false] at hcc
      subst hcc
      exact ways_send_none hcb' (Nat.le_refl _) hp
    obtain ⟨f', hl, hN⟩ := N.parks (d := d) (g' := parked g₂ #[scase c v z'] .send) L hi hf hsi ⟨g₂, z', rfl, hnext⟩ (fun c' h => by cases h) (fun c' u j v' bs h hj hfj hsj => by cases h; exact hm ⟨j, v', bs, hj, hfj, hsj⟩) (fun c' u j v' bs h => by cases h) htr
    exact ⟨_, _, _, hstep, hl, .mk sl hN⟩

theorem Net.atRcv (L : Law K rank) (N : Net P z Post K a f T Ts gs w t) {i n c d : Nat} {v : Value} {al : List Do} {sl : Option (Nat × Nat)} {g : Goroutine} (hi : i < a.n) (hg : gs[i]? = some g) (hf : f i = some n) (hsi : a.sc i = .pr (.rcv c v) :: al)
    (hat : AtP P z (i == 0) (RR a.ch Ts i) (EE T Ts i) (NN P z Post T a.ch Ts i al) g (w.at d) (.rcv c v)) :
    ∃ m' ops μ', runT P (crowd gs (w.at d) sl) i = (.next m', ops) ∧ Lt2 μ' (mu rank a f) ∧ Inv P z Post K rank μ' m' (t ++ ops) := by
  obtain ⟨hrun, es, hst, hes, hnext⟩ := hat
  obtain ⟨hc, ho⟩ := L.rcvOpen a i c v al N.k hi hsi
  obtain ⟨s, r, tm, hcb⟩ := N.chan c hc
  rw [ho] at hcb
  have hcb' : (w.at d).heap[c]? = some (.chan 0 #[] false s r tm) := hcb
  have hne : a.sc i ≠ [] := by rw [hsi]; simp
  have htr := N.evs (fn := g.frame.fn) (pos := g.frame.place) hi (.inr hne) hes
  have hpos := L.pos a N.k
  by_cases hm : ∃ j v' bs, j < a.n ∧ f j = none ∧ a.sc j = .pr (.snd c v') :: bs
  · obtain ⟨j, v', bs, hj, hfj, hsj⟩ := hm
    obtain ⟨hji, hv, _, _⟩ := L.pass a j i c v' v bs al N.k hj hi hsj hsi
    subst hv
    obtain ⟨y, hy, g₀, z', rfl, hnj⟩ := N.parkedAt hj hfj hsj
    have hij : i ≠ j := fun e => hji e.symm
    have hp := N.onePartner (send := true) hji hy (r := c) (by rw [offersAt_parked_send]; simp) fun k x hki hkj hx => by
      have hk : k < a.n := by rw [← N.size]; exact (Array.getElem?_eq_some_iff.1 hx).1
      rcases (N.offers L hx c).1 with h | ⟨_, u, g₁, z₁, ds, hsk, _⟩
      · exact h
      · exact absurd (L.sndOne a k j c u v' ds bs N.k hk hj hsk hsj) hkj
    have hstep := crowd_recv_meets (sl := sl) hg hst hcb' hji hy hp
    have hlt : i < gs.size := (Array.getElem?_eq_some_iff.1 hg).1
    have hltj : j < gs.size := (Array.getElem?_eq_some_iff.1 hy).1
    obtain ⟨f', hl, hN⟩ := Net.passed (d := d) (s := s + 1) (r := r + 1) (tm := tm) (gi := Go.Conc.served g₀ undef) (gj := Go.Conc.served (core g) (.tuple #[v', .bool true]))
      (gs' := (gs.setIfInBounds j (Go.Conc.served g₀ undef)).setIfInBounds i (Go.Conc.served (core g) (.tuple #[v', .bool true]))) L N hj hi hsj hsi
      (by rw [Array.getElem?_setIfInBounds_ne hij]; simp [hltj]) (by simp [hlt]) (fun k h1 h2 => by rw [Array.getElem?_setIfInBounds_ne (fun e => h2 e.symm), Array.getElem?_setIfInBounds_ne (fun e => h1 e.symm)]) (by simp)
      (hnj _ ((RR.at _ _ _).trans (N.rput hj hc _ _))) (hnext _ (N.rput hi hc _ _))
      (htr.silent' hpos #[{ g := j, fn := g₀.frame.fn, pos := g₀.frame.place, act := .send c s }, { g := i, fn := (core g).frame.fn, pos := (core g).frame.place, act := .recv c r 0 },
        { g := j, fn := g₀.frame.fn, pos := g₀.frame.place, act := .sendDone c s }, { g := i, fn := (core g).frame.fn, pos := (core g).frame.place, act := .recvDone c r }] (by simp [hi, hj, MemAct.touch?]))
    refine ⟨_, _, _, hstep, hl, ?_⟩
    rw [← Array.append_assoc]
    exact .mk sl hN
  · have hp := N.noPartner (i := i) (r := c) (send := true) fun k x hki hx => by
      have hk : k < a.n := by rw [← N.size]; exact (Array.getElem?_eq_some_iff.1 hx).1
      rcases (N.offers L hx c).1 with h | ⟨hfk, u, g₁, z₁, ds, hsk, _⟩
      · exact h
      · exact absurd ⟨k, u, ds, hk, hfk, hsk⟩ hm
    have hstep := crowd_waits (sl := sl) hg hst fun cc hcc => by
      simp only [List.mem_toArray, List.mem_cons, List.not_mem_nil, or_false] at hcc
      subst hcc
      exact ways_recv_none hcb' hp
    obtain ⟨f', hl, hN⟩ := N.parks (d := d) (g' := parked (core g) #[rcase c (z c)] (.recv true)) L hi hf hsi ⟨g, rfl, hnext⟩ (fun c' h => by cases h) (fun c' u j v' bs h => by cases h) (fun c' u j v' bs h hj hfj hsj => by cases h; exact hm ⟨j, v', bs, hj, hfj, hsj⟩) htr
    exact ⟨_, _, _, hstep, hl, .mk sl hN⟩

end
end Go.Proofs.Ytplndihadjfliaa.Net
