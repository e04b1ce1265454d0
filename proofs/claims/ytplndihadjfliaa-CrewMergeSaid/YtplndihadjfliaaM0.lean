/-
  A select OF A SEND AND A RECEIVE ('select { case c <- v: ; case <-s: }'): the communication's laws in the machine of many goroutines.
-/
import Derived.Conc.CrowdSel
import Derived.Conc.CrowdTrace
import Derived.Conc.CrowdBase
import Derived.Conc.QuitsD
import Derived.Conc.WrWorld
set_option linter.unusedSimpArgs false
set_option linter.unusedVariables false
namespace Go.Proofs.Ytplndihadjfliaa.Mix
open Go Go.Conc Go.ConcN

/-- Its two cases. -/
def selc (c : Nat) (v z : Value) (s : Nat) (zs : Value) : Array CommCase := #[scase c v z, rcase s zs]

section
variable {P : Program} {gs : Array Goroutine} {w w₁ : World} {sl : Option (Nat × Nat)} {i j : Nat} {g g₂ gj : Goroutine} {es : Array Event} {c cap s r st : Nat} {buf : Array Value} {tm closed : Bool} {v z zj zs : Value}
  {blocking : Bool} {shape shj : CommShape}

/-- A RECEIVE MEETS A GOROUTINE THAT IS PARKED THERE. -/
theorem recv_meets_sel (hi : gs[i]? = some g) (h : stepG P (i == 0) g w = .comm g₂ #[rcase c z] blocking shape w₁ es) (hc : w₁.heap[c]? = some (.chan cap #[] closed s r tm))
    (hij : j ≠ i) (hj : gs[j]? = some (parked gj (selc c v zj st zs) shj)) (hp : partners (gs.setIfInBounds i ph) c true = [(j, 0)]) :
    runT P (crowd gs w sl) i = (.next (crowd ((gs.setIfInBounds j (gj.finishComm P (selc c v zj st zs) shj 0 undef false)).setIfInBounds i (g₂.finishComm P #[rcase c z] shape 0 v true)) (w₁.setChan c cap #[] closed (s + 1) (r + 1) tm) sl),
      MemOp.ofEvents i g.frame.fn g.frame.place es ++ #[{ g := j, fn := gj.frame.fn, pos := gj.frame.place, act := .send c s }, { g := i, fn := g₂.frame.fn, pos := g₂.frame.place, act := .recv c r cap },
        { g := j, fn := gj.frame.fn, pos := gj.frame.place, act := .sendDone c s }, { g := i, fn := g₂.frame.fn, pos := g₂.frame.place, act := .recvDone c r }]) := by
  rw [runT_crowd_comm hi h]
  have hj' := stand_get (i := i) hij hj
  have hfp := finishPartner_at P (gs.setIfInBounds i ph) hj' (cs := selc c v zj st zs) (sh := shj) rfl 0 undef
  have hgd : (gs.setIfInBounds i ph).getD j default = parked gj (selc c v zj st zs) shj := by rw [Array.getD_eq_getD_getElem?, hj']; rfl
  have hov : offeredValue (gs.setIfInBounds i ph) j 0 = v := by simp [offeredValue, hj', parked, scase, selc]
  simp [communicate, ways, rcase, hc, hp, choose, Sem.run, Question.forced, bind, Sem.bind, pure, World.setChan, crowd, hfp, hgd, hov, set_stand2, finishComm_parked, scase, parked, selc]
  rfl

/-- IT COMES WHERE A RECEIVER IS PARKED; nothing can be received at the other channel. -/
theorem sel_meets_recv (hi : gs[i]? = some g) (h : stepG P (i == 0) g w = .comm g₂ (selc c v z st zs) blocking shape w₁ es) (ho : NoWays w₁ (gs.setIfInBounds i ph) (rcase st zs))
    (hc : w₁.heap[c]? = some (.chan cap buf false s r tm)) (hij : j ≠ i) (hj : gs[j]? = some (parked gj #[rcase c zj] shj)) (hp : partners (gs.setIfInBounds i ph) c false = [(j, 0)]) :
    runT P (crowd gs w sl) i = (.next (crowd ((gs.setIfInBounds j (gj.finishComm P #[rcase c zj] shj 0 v true)).setIfInBounds i (g₂.finishComm P (selc c v z st zs) shape 0 undef false)) (w₁.setChan c cap buf false (s + 1) (r + 1) tm) sl),
      MemOp.ofEvents i g.frame.fn g.frame.place es ++ #[{ g := i, fn := g₂.frame.fn, pos := g₂.frame.place, act := .send c s }, { g := j, fn := gj.frame.fn, pos := gj.frame.place, act := .recv c r cap },
        { g := i, fn := g₂.frame.fn, pos := g₂.frame.place, act := .sendDone c s }, { g := j, fn := gj.frame.fn, pos := gj.frame.place, act := .recvDone c r }]) := by
  have hw : ways w₁ (gs.setIfInBounds i ph) (scase c v z) = [.partner j 0] := by simp [ways, scase, hc, hp]
  have hj' := stand_get (i := i) hij hj
  have hfp := finishPartner_at P (gs.setIfInBounds i ph) hj' (cs := #[rcase c zj]) (sh := shj) rfl 0 v
  have hgd : (gs.setIfInBounds i ph).getD j default = parked gj #[rcase c zj] shj := by rw [Array.getD_eq_getD_getElem?, hj']; rfl
  have hk : (selc c v z st zs)[0]? = some (scase c v z) := rfl
  have ho' : ∀ (m : Nat) (c' : CommCase), m ≠ 0 → (selc c v z st zs)[m]? = some c' → NoWays w₁ (gs.setIfInBounds i ph) c' := by
    intro m c' hm hc'
    match m, hm, hc' with
    | 1, _, hc' => cases hc'; exact ho
    | m + 2, _, hc' => simp [selc] at hc'
  rw [runT_crowd_comm hi h]
  unfold communicate
  simp only [ready_one hk (by rw [hw]; simp) ho', hw]
  rw [if_neg]
  · simp [choose, Sem.run, Question.forced, bind, Sem.bind, pure, rcase, crowd, hc, hfp, hgd, set_stand2, finishComm_parked, scase, parked, World.setChan]
    rfl
  · rw [Bool.not_eq_true]; exact any_ill (made_of_one hk (made_send v z hc) ho')

/-- THE OTHER CHANNEL IS CLOSED; nobody waits for the value. -/
theorem sel_closed (hi : gs[i]? = some g) (h : stepG P (i == 0) g w = .comm g₂ (selc c v z st zs) blocking shape w₁ es) (ho : NoWays w₁ (gs.setIfInBounds i ph) (scase c v z))
    (hc : w₁.heap[st]? = some (.chan cap #[] true s r tm)) (hp : partners (gs.setIfInBounds i ph) st true = []) :
    runT P (crowd gs w sl) i = (.next (crowd (gs.setIfInBounds i (g₂.finishComm P (selc c v z st zs) shape 1 zs false)) w₁ sl),
      MemOp.ofEvents i g.frame.fn g.frame.place es ++ #[{ g := i, fn := g₂.frame.fn, pos := g₂.frame.place, act := .recvClosed st }]) :=
  crowd_sel_recv_closed (k := 1) hi h rfl (fun m c' hm hc' => by
    match m, hm, hc' with
    | 0, _, hc' => cases hc'; exact ho
    | m + 2, _, hc' => simp [selc] at hc') hc hp

/-- NOBODY IS THERE: it waits. -/
theorem sel_waits (hi : gs[i]? = some g) (h : stepG P (i == 0) g w = .comm g₂ (selc c v z st zs) true shape w₁ es) (h0 : NoWays w₁ (gs.setIfInBounds i ph) (scase c v z)) (h1 : NoWays w₁ (gs.setIfInBounds i ph) (rcase st zs)) :
    runT P (crowd gs w sl) i = (.next (crowd (gs.setIfInBounds i (parked g₂ (selc c v z st zs) shape)) w₁ sl), MemOp.ofEvents i g.frame.fn g.frame.place es) :=
  crowd_waits hi h fun cc hcc => by
    simp only [selc, List.mem_toArray, List.mem_cons, List.not_mem_nil, or_false] at hcc
    rcases hcc with rfl | rfl
    · exact h0
    · exact h1
end

/-! ### what it offers, and when it is let try again -/
section
variable {g : Goroutine} {w : World} {sh : CommShape} {c s : Nat} {v z zs : Value}
theorem offers_sel_send (r : Nat) : offersAt (parked g (selc c v z s zs) sh) r true = if c = r then [0] else [] := by
  by_cases h : c = r
  · simp [offersAt, parked, selc, scase, rcase, h]
  · simp [offersAt, parked, selc, scase, rcase, h]
theorem offers_sel_recv (r : Nat) : offersAt (parked g (selc c v z s zs) sh) r false = if s = r then [1] else [] := by
  by_cases h : s = r
  · simp [offersAt, parked, selc, scase, rcase, h]
  · simp [offersAt, parked, selc, scase, rcase, h]
theorem again_sel_open {cap s₁ r₁ cap' s₂ r₂ : Nat} {buf buf' : Array Value} {tm tm' : Bool} (hc : w.heap[c]? = some (.chan cap buf false s₁ r₁ tm)) (hs : w.heap[s]? = some (.chan cap' buf' false s₂ r₂ tm')) : (parked g (selc c v z s zs) sh).again w = parked g (selc c v z s zs) sh := by
  simp [Goroutine.again, parked, selc, scase, rcase, hc, hs]
theorem again_sel_closed {cap s₁ r₁ : Nat} {buf : Array Value} {tm : Bool} (hs : w.heap[s]? = some (.chan cap buf true s₁ r₁ tm)) : (parked g (selc c v z s zs) sh).again w = { parked g (selc c v z s zs) sh with status := .running } :=
  again_some_closed (k := 1) rfl hs
end
end Go.Proofs.Ytplndihadjfliaa.Mix
/-
  A NET OF GOROUTINES WITH select AND sync.WaitGroup: definitions. (Beside N0: more acts.)
-/
set_option linter.unusedSimpArgs false
set_option linter.unusedVariables false
namespace Go.Proofs.Ytplndihadjfliaa.Mix
open Go Go.Conc Go.ConcN
open Go.ConcR (KK wgBlock WgAt stA smA rd wr mk)

/-- An act. 'sel c v s k': it hands on v at c, or finds s closed and goes on behind k acts more. 'say': one word, no more. 'inc': the group's count + 1. 'dec k': - 1; the last one, where goroutine 0 waits, goes on; any other behind k acts more.
  'ldl', 'clr', 'rls': the last one's way. 'wld k': in Wait: the state is looked at; 'cas v k': v was seen; 'acs': at the semaphore; 'wl4': behind it. -/
inductive Pr where
  | snd (c : Nat) (v : Value)
  | rcv (c : Nat) (v : Value)
  | eof (c : Nat)
  | cls (c : Nat)
  | sel (c : Nat) (v : Value) (s k : Nat)
  | say (m : Mark)
  | inc
  | dec (k : Nat)
  | ldl | clr | rls
  | wld (k : Nat)
  | cas (v k : Nat)
  | acs | wl4

inductive Do where
  | pr (p : Pr)
  | fork (T cs : List Nat) (kid : List Pr)
  | mkg
  | mkc (c : Nat)

/-- The abstract net. 'df': how many of a goroutine's 'disable's stand open; 'wg', 'on', 'v', 'wt', 'sm': the group: its block, whether it is there, its count, its waiters, its semaphore; 'rel': whose release is said; 'G': the blocks of all groups. -/
structure Abs where
  n : Nat
  sc : Nat → List Do
  ch : List Nat
  ck : List Nat
  shut : Nat → Bool
  kn : Nat → List Nat
  kc : Nat → List Nat
  df : Nat → Nat
  wg : Nat
  on : Bool
  v : Nat
  wt : Nat
  sm : Nat
  rel : Nat → Bool
  G : List Nat

def put {α : Type} (f : Nat → α) (i : Nat) (x : α) : Nat → α := fun j => if j = i then x else f j
theorem put_same {α : Type} (f : Nat → α) (i : Nat) (x : α) : put f i x i = x := by simp [put]
theorem put_ne {α : Type} (f : Nat → α) {i j : Nat} (x : α) (h : j ≠ i) : put f i x j = f j := by simp [put, h]

def saidDf (m : Mark) (d : Nat) : Nat :=
  match m with
  | .disable => d + 1
  | .enable => d - 1
  | _ => d

def Abs.to (a : Abs) (i : Nat) (al : List Do) : Abs := { a with sc := put a.sc i al }
def Abs.pass (a : Abs) (i j : Nat) (al bs : List Do) : Abs := { a with sc := put (put a.sc i al) j bs }
def Abs.seen (a : Abs) (i c : Nat) (al : List Do) : Abs := { a with sc := put a.sc i al, kn := put a.kn i (a.kc c ++ a.kn i) }
/-- Who closes and is done is known to whoever finds the channel closed. -/
def Abs.close (a : Abs) (i c : Nat) (al : List Do) : Abs := { a with sc := put a.sc i al, shut := put a.shut c true, kc := put a.kc c (if al = [] ∧ i ≠ 0 then i :: a.kn i else a.kn i) }
def Abs.fork (a : Abs) (cs : List Nat) (kid : List Pr) (al : List Do) : Abs :=
  { a with n := a.n + 1, sc := put (put a.sc 0 al) a.n (kid.map .pr), ch := cs ++ a.ch, ck := cs ++ a.ck, kn := put a.kn a.n [], df := put a.df a.n 0, rel := put a.rel a.n false }
def Abs.say (a : Abs) (i : Nat) (m : Mark) (al : List Do) : Abs :=
  { a with sc := put a.sc i al, df := put a.df i (saidDf m (a.df i)), rel := if m = .releaseMerge (stA a.wg) then put a.rel i true else a.rel,
           kn := if m = .acquire (stA a.wg) then put a.kn i ((List.range a.n).filter (fun j => a.rel j) ++ a.kn i) else a.kn }
def Abs.mkg (a : Abs) (al : List Do) : Abs := { a with sc := put a.sc 0 al, on := true, ch := a.wg :: a.ch, G := a.wg :: a.G, v := 0, wt := 0, sm := 0 }
def Abs.mkc (a : Abs) (c : Nat) (al : List Do) : Abs := { a with sc := put a.sc 0 al, ch := c :: a.ch, ck := c :: a.ck }
def Abs.grp (a : Abs) (i : Nat) (al : List Do) (v wt sm : Nat) : Abs := { a with sc := put a.sc i al, v := v, wt := wt, sm := sm }

/-! ### the goroutines -/
def blk : Loc → Option Nat
  | .cell a => some a.block
  | .obj r => some r
  | _ => none
/-- What a worker reads: blocks of T, channels. -/
def In (T : List Nat) (l : Loc) : Prop := (∃ b, blk l = some b ∧ b ∈ T) ∨ ∃ c, l = .obj c

def EvW (T : List Nat) (e : Event) : Prop := (∀ m, e.loc = .mark m → Neutral m) ∧ ((∃ m, e.loc = .mark m) ∨ (e.write = false ∧ In T e.loc))
/-- What an entry of goroutine 0's may be: it writes no block of T, no map; a cell that it touches is there, and no group's; it may say that it reads or writes a group's semaphore. -/
def EvM (T G : List Nat) (B : Nat) (e : Event) : Prop :=
  (∃ b ∈ G, b < B ∧ (e.loc = .mark (.read (smA b)) ∨ e.loc = .mark (.write (smA b)))) ∨
  ((∀ m, e.loc = .mark m → Neutral m) ∧ (e.write = true → ¬ In T e.loc) ∧ ∀ ad, e.loc = .cell ad → ad.block ∉ G ∧ ad.block < B)

/-- The group's block is there. -/
def WgLive (ty : TypeId) (Wg : Nat) (w : World) : Prop := ∃ st sm, WgAt ty Wg w st sm
/-- What a worker suffers: what it reads stands; the group's block, once there (and where it is asked for), stays. 'ty.1': the group's type. -/
structure RW (ty : TypeId × Bool) (Wg : Nat) (T : List Nat) (w w₁ : World) : Prop where
  rd : ∀ b ∈ T, w₁.heap[b]? = w.heap[b]?
  live : ty.2 = true → WgLive ty.1 Wg w → WgLive ty.1 Wg w₁
structure RC (ty : TypeId × Bool) (Wg : Nat) (ch : List Nat) (w w₁ : World) : Prop where
  tape : w₁.tape = w.tape
  os : w₁.os = w.os
  output : w₁.output = w.output
  size : w₁.heap.size = w.heap.size
  block : ∀ b, b ∉ ch → w₁.heap[b]? = w.heap[b]?
  live : ty.2 = true → WgLive ty.1 Wg w → WgLive ty.1 Wg w₁
def DW (T : List Nat) (w w' : World) (es : Array Event) : Prop := w' = w ∧ ∀ e ∈ es, EvW T e
def D0 (w w' : World) (es : Array Event) : Prop := w' = w ∧ es = #[]
structure DM (ty : TypeId × Bool) (Wg : Nat) (T ch G : List Nat) (w w' : World) (es : Array Event) : Prop where
  rd : ∀ b ∈ T, w'.heap[b]? = w.heap[b]?
  ch : ∀ b ∈ ch, w'.heap[b]? = w.heap[b]?
  size : w.heap.size ≤ w'.heap.size
  evs : ∀ e ∈ es, EvM T G w'.heap.size e
  live : ty.2 = true → WgLive ty.1 Wg w → WgLive ty.1 Wg w'

section
variable {ty : TypeId × Bool} {Wg : Nat}
theorem RW.refl (T : List Nat) (w : World) : RW ty Wg T w w := ⟨fun _ _ => rfl, fun _ h => h⟩
theorem RW.trans {T : List Nat} {a b c : World} (h : RW ty Wg T a b) (h' : RW ty Wg T b c) : RW ty Wg T a c := ⟨fun k hk => (h'.rd k hk).trans (h.rd k hk), fun e x => h'.live e (h.live e x)⟩
theorem RC.refl (ch : List Nat) (w : World) : RC ty Wg ch w w := ⟨rfl, rfl, rfl, rfl, fun _ _ => rfl, fun _ h => h⟩
theorem RC.trans {ch : List Nat} {a b c : World} (h : RC ty Wg ch a b) (h' : RC ty Wg ch b c) : RC ty Wg ch a c :=
  ⟨h'.tape.trans h.tape, h'.os.trans h.os, h'.output.trans h.output, h'.size.trans h.size, fun k hk => (h'.block k hk).trans (h.block k hk), fun e x => h'.live e (h.live e x)⟩
theorem RW.at (T : List Nat) (w : World) (d : Nat) : RW ty Wg T w (w.at d) := ⟨fun _ _ => rfl, fun _ h => h⟩
theorem RC.at (ch : List Nat) (w : World) (d : Nat) : RC ty Wg ch w (w.at d) := ⟨rfl, rfl, rfl, rfl, fun _ _ => rfl, fun _ h => h⟩
theorem live_put {c cap s r : Nat} {buf : Array Value} {cl tm : Bool} {t : TypeId} {w : World} {o : Obj} (hc : w.heap[c]? = some (.chan cap buf cl s r tm)) (h : WgLive t Wg w) : WgLive t Wg { w with heap := w.heap.setIfInBounds c o } := by
  obtain ⟨st, sm, h⟩ := h
  refine ⟨st, sm, ?_⟩
  unfold WgAt wgBlock at h ⊢
  have : c ≠ Wg := by rintro rfl; rw [hc] at h; cases h
  simp [this, h]
theorem RW.put {T : List Nat} {c cap s r : Nat} {buf : Array Value} {cl tm : Bool} {w : World} (h : c ∉ T) (hc : w.heap[c]? = some (.chan cap buf cl s r tm)) (o : Obj) : RW ty Wg T w { w with heap := w.heap.setIfInBounds c o } :=
  ⟨fun b hb => by
    have : c ≠ b := fun e => h (e ▸ hb)
    simp [this], fun _ => live_put hc⟩
theorem RC.put {ch : List Nat} {c cap s r : Nat} {buf : Array Value} {cl tm : Bool} {w : World} (h : c ∈ ch) (hc : w.heap[c]? = some (.chan cap buf cl s r tm)) (o : Obj) : RC ty Wg ch w { w with heap := w.heap.setIfInBounds c o } :=
  ⟨rfl, rfl, rfl, by simp, fun b hb => by
    have : c ≠ b := fun e => hb (e ▸ h)
    simp [this], fun _ => live_put hc⟩
theorem RW.cell {T : List Nat} {ad : Addr} (h : ad.block ∉ T) (w : World) (u : Value) (hl : WgLive ty.1 Wg (w.setCell ad u)) : RW ty Wg T w (w.setCell ad u) := ⟨fun b hb => by
  have : b ≠ ad.block := fun e => h (e ▸ hb)
  simp only [World.setCell, Array.getElem?_modify]
  rw [if_neg (fun e => this e.symm)], fun _ _ => hl⟩
theorem RC.cell {ch : List Nat} {ad : Addr} (h : ad.block ∈ ch) (w : World) (u : Value) (hl : WgLive ty.1 Wg (w.setCell ad u)) : RC ty Wg ch w (w.setCell ad u) :=
  ⟨rfl, rfl, rfl, by simp [World.setCell], fun b hb => by
    have : b ≠ ad.block := fun e => hb (e ▸ h)
    simp only [World.setCell, Array.getElem?_modify]
    rw [if_neg (fun e => this e.symm)], fun _ _ => hl⟩
end

section
variable (P : Program) (z : Nat → Value) (ty : TypeId × Bool) (Wg : Nat)

/-- AT AN ACT. 'Next': behind it; 'Nxt2': by its other way out; 'Nxt3 v': where the state was seen to be v. -/
def AtP (main : Bool) (R : World → World → Prop) (Ev : Nat → Event → Prop) (Next Nxt2 : Goroutine → World → Prop) (Nxt3 : Nat → Goroutine → World → Prop) (g : Goroutine) (w : World) : Pr → Prop
  | .snd c v => g.status = .running ∧ ∃ (g₂ : Goroutine) (z' : Value) (es : Array Event), stepG P main g w = .comm g₂ #[scase c v z'] true .send w es ∧ (∀ e ∈ es, Ev w.heap.size e) ∧ ∀ w₂, R w w₂ → Next (Go.Conc.served g₂ undef) w₂
  | .rcv c v => g.status = .running ∧ ∃ (es : Array Event), stepG P main g w = .comm (core g) #[rcase c (z c)] true (.recv true) w es ∧ (∀ e ∈ es, Ev w.heap.size e) ∧ ∀ w₂, R w w₂ → Next (Go.Conc.served (core g) (.tuple #[v, .bool true])) w₂
  | .eof c => g.status = .running ∧ ∃ (es : Array Event), stepG P main g w = .comm (core g) #[rcase c (z c)] true (.recv true) w es ∧ (∀ e ∈ es, Ev w.heap.size e) ∧ ∀ w₂, R w w₂ → Next (Go.Conc.served (core g) (.tuple #[z c, .bool false])) w₂
  | .cls c => g.status = .running ∧ mayWake P g = true ∧ ∀ s r tm, w.heap[c]? = some (.chan 0 #[] false s r tm) → ∃ (g₂ : Goroutine) (es : Array Event), stepG P main g w = .go g₂ (w.shut c s r tm) (es.push ⟨.obj c, true, true⟩) ∧
      (g₂.status = .running ∨ g₂.status = .finished) ∧ (∀ e ∈ es, Ev w.heap.size e) ∧ ∀ w₂, R (w.shut c s r tm) w₂ → Next g₂ w₂
  | .sel c v s k => g.status = .running ∧ ∃ (z' zs : Value) (es : Array Event), stepG P main g w = .comm (core g) (selc c v z' s zs) true .select w es ∧ (∀ e ∈ es, Ev w.heap.size e) ∧
      (∀ w₂, R w w₂ → Next ((core g).finishComm P (selc c v z' s zs) .select 0 undef false) w₂) ∧ (∀ w₂, R w w₂ → Nxt2 ((core g).finishComm P (selc c v z' s zs) .select 1 zs false) w₂)
  | .say m => g.status = .running ∧ ∃ g', stepG P main g w = .go g' w #[mk m] ∧ Next g' w
  | .inc => g.status = .running ∧ ∀ v : Nat, v < 2147483647 → WgAt ty.1 Wg w (v * KK) 0 → ∃ g', stepG P main g w = .go g' (w.setCell (stA Wg) (.int .u64 ((v + 1) * KK))) #[rd (stA Wg), wr (stA Wg)] ∧ Next g' (w.setCell (stA Wg) (.int .u64 ((v + 1) * KK)))
  | .dec k => g.status = .running ∧ ∀ v wt : Nat, wt ≤ 1 → v < 2147483647 → WgAt ty.1 Wg w ((v + 1) * KK + wt) 0 → ∃ g', stepG P main g w = .go g' (w.setCell (stA Wg) (.int .u64 (v * KK + wt))) #[rd (stA Wg), wr (stA Wg)] ∧
      ((v = 0 ∧ wt = 1) → Next g' (w.setCell (stA Wg) (.int .u64 (v * KK + wt)))) ∧ (¬ (v = 0 ∧ wt = 1) → Nxt2 g' (w.setCell (stA Wg) (.int .u64 (v * KK + wt))))
  | .ldl => g.status = .running ∧ (WgAt ty.1 Wg w 1 0 → ∃ g', stepG P main g w = .go g' w #[rd (stA Wg)] ∧ Next g' w)
  | .clr => g.status = .running ∧ (WgAt ty.1 Wg w 1 0 → ∃ g', stepG P main g w = .go g' (w.setCell (stA Wg) (.int .u64 0)) #[wr (stA Wg)] ∧ Next g' (w.setCell (stA Wg) (.int .u64 0)))
  | .rls => g.status = .running ∧ mayWake P g = true ∧ (WgAt ty.1 Wg w 0 0 → ∃ g', stepG P main g w = .go g' (w.setCell (smA Wg) (.int .u32 1)) (semEvents (smA Wg)) ∧ (g'.status = .running ∨ g'.status = .finished) ∧ Next g' (w.setCell (smA Wg) (.int .u32 1)))
  | .wld k => g.status = .running ∧ ∀ v : Nat, v ≤ k → v < 2147483648 → WgAt ty.1 Wg w (v * KK) 0 → ∃ g', stepG P main g w = .go g' w #[rd (stA Wg)] ∧ (v = 0 → Next g' w) ∧ (v ≠ 0 → Nxt3 v g' w)
  | .cas vs k => g.status = .running ∧ ∀ v : Nat, v ≤ vs → WgAt ty.1 Wg w (v * KK) 0 →
      (v = vs → ∃ g', stepG P main g w = .go g' (w.setCell (stA Wg) (.int .u64 (v * KK + 1))) #[rd (stA Wg), wr (stA Wg)] ∧ Next g' (w.setCell (stA Wg) (.int .u64 (v * KK + 1)))) ∧
      (v ≠ vs → ∃ g', stepG P main g w = .go g' w #[rd (stA Wg)] ∧ Nxt2 g' w)
  | .acs => g.status = .running ∧ g.offers = none ∧ ((∃ st, WgAt ty.1 Wg w st 0) → stepG P main g w = .go { g with status := .blocked } w #[]) ∧
      (WgAt ty.1 Wg w 0 1 → ∃ g', stepG P main g w = .go g' (w.setCell (smA Wg) (.int .u32 0)) (semEvents (smA Wg)) ∧ Next g' (w.setCell (smA Wg) (.int .u32 0)))
  | .wl4 => g.status = .running ∧ (WgAt ty.1 Wg w 0 0 → ∃ g', stepG P main g w = .go g' w #[rd (stA Wg)] ∧ Next g' w)

/-- How much is still to be said of a script (a way out is ahead of it). -/
def wtP : Pr → Nat
  | .wld k => 4 * k + 4
  | .cas _ k => 4 * k + 3
  | _ => 1
def wtPs (ps : List Pr) : Nat := (ps.map wtP).sum
theorem wtPs_cons (p : Pr) (ps : List Pr) : wtPs (p :: ps) = wtP p + wtPs ps := by simp [wtPs]
theorem wtPs_drop (k : Nat) (ps : List Pr) : wtPs (ps.drop k) ≤ wtPs ps := by
  induction k generalizing ps with
  | zero => simp
  | succ k ih =>
    cases ps with
    | nil => simp
    | cons p ps => rw [wtPs_cons]; have := ih ps; simp only [List.drop_succ_cons]; omega
theorem wtP_pos (p : Pr) : 0 < wtP p := by cases p <;> simp [wtP]

/-- What stands behind an act, by each of its ways out. -/
def Pr.next (p : Pr) (ps : List Pr) : List Pr :=
  match p with
  | .cas _ _ => .acs :: .wl4 :: ps
  | _ => ps
def Pr.next2 (p : Pr) (ps : List Pr) : List Pr :=
  match p with
  | .sel _ _ _ k => ps.drop k
  | .dec k => ps.drop k
  | .cas _ (k + 1) => .wld k :: ps
  | _ => ps
def Pr.next3 (p : Pr) (ps : List Pr) (v : Nat) : List Pr :=
  match p with
  | .wld (k + 1) => .cas v (k + 1) :: ps
  | _ => ps
theorem Pr.next_lt (p : Pr) (ps : List Pr) : wtPs (p.next ps) < wtPs (p :: ps) := by
  rw [wtPs_cons]
  cases p <;> simp only [Pr.next, wtPs_cons, wtP] <;> omega
theorem Pr.next2_lt (p : Pr) (ps : List Pr) : wtPs (p.next2 ps) < wtPs (p :: ps) := by
  rw [wtPs_cons]
  have hd := fun k => wtPs_drop k ps
  cases p with
  | sel c v s k => have := hd k; simp only [Pr.next2, wtP]; omega
  | dec k => have := hd k; simp only [Pr.next2, wtP]; omega
  | cas v k => cases k <;> simp only [Pr.next2, wtPs_cons, wtP] <;> omega
  | _ => simp only [Pr.next2, wtP]; omega
theorem Pr.next3_lt (p : Pr) (ps : List Pr) (v : Nat) : wtPs (p.next3 ps v) < wtPs (p :: ps) := by
  rw [wtPs_cons]
  cases p with
  | wld k => cases k <;> simp only [Pr.next3, wtPs_cons, wtP] <;> omega
  | _ => simp only [Pr.next3, wtP]; omega

/-- Behind its release a worker's steps say nothing but what its acts say. -/
def Pr.quiet : Pr → Bool
  | .say .disable | .dec _ | .ldl | .clr | .rls => true
  | _ => false

def DWp (T : List Nat) (p : Pr) : World → World → Array Event → Prop := if p.quiet then D0 else DW T
def dfP (p : Pr) (d : Nat) : Nat := match p with | .say m => saidDf m d | _ => d

/-- A WORKER FOLLOWS ITS SCRIPT; 'd': its 'disable's that stand open. -/
def FollowW (T : List Nat) (d : Nat) (ps : List Pr) : Goroutine → World → Prop :=
  match ps with
  | [] => fun g _ => ∃ n, QuitsD P n d g
  | p :: ps => fun g w => ∃ n, Goes P false (RW ty Wg T) (DWp T p) (fun g' w' => AtP P z ty Wg false (RW ty Wg T) (fun _ => EvW T) (FollowW T (dfP p d) (p.next ps)) (FollowW T (dfP p d) (p.next2 ps)) (fun v => FollowW T (dfP p d) (p.next3 ps v)) g' w' p) n g w
termination_by wtPs ps
decreasing_by
  · exact Pr.next_lt p ps
  · exact Pr.next2_lt p ps
  · exact Pr.next3_lt p ps v

variable (Post : List Nat → List Nat → List Nat → Goroutine → World → Prop)

/-- It stands where the script ends. -/
def AtEnd (T ch G : List Nat) (g : Goroutine) (w : World) : Prop := g.status = .running ∧ Post T ch G g w

def wtD : Do → Nat
  | .pr p => wtP p
  | .fork _ _ _ => 1
  | .mkg => 1
  | .mkc _ => 1
def wtDs (l : List Do) : Nat := (l.map wtD).sum
def Do.next (p : Pr) (l : List Do) : List Do :=
  match p with
  | .cas _ _ => .pr .acs :: .pr .wl4 :: l
  | _ => l
def Do.next2 (p : Pr) (l : List Do) : List Do :=
  match p with
  | .sel _ _ _ k => l.drop k
  | .dec k => l.drop k
  | .cas _ (k + 1) => .pr (.wld k) :: l
  | _ => l
def Do.next3 (p : Pr) (l : List Do) (v : Nat) : List Do :=
  match p with
  | .wld (k + 1) => .pr (.cas v (k + 1)) :: l
  | _ => l
theorem wtDs_cons (p : Do) (l : List Do) : wtDs (p :: l) = wtD p + wtDs l := by simp [wtDs]
theorem wtDs_drop (k : Nat) (l : List Do) : wtDs (l.drop k) ≤ wtDs l := by
  induction k generalizing l with
  | zero => simp
  | succ k ih =>
    cases l with
    | nil => simp
    | cons p l => rw [wtDs_cons]; have := ih l; simp only [List.drop_succ_cons]; omega
theorem Do.next_lt (p : Pr) (l : List Do) : wtDs (Do.next p l) < wtDs (.pr p :: l) := by
  rw [wtDs_cons]
  cases p <;> simp only [Do.next, wtDs_cons, wtD, wtP] <;> omega
theorem Do.next2_lt (p : Pr) (l : List Do) : wtDs (Do.next2 p l) < wtDs (.pr p :: l) := by
  rw [wtDs_cons]
  have hd := fun k => wtDs_drop k l
  cases p with
  | sel c v s k => have := hd k; simp only [Do.next2, wtD, wtP]; omega
  | dec k => have := hd k; simp only [Do.next2, wtD, wtP]; omega
  | cas v k => cases k <;> simp only [Do.next2, wtDs_cons, wtD, wtP] <;> omega
  | _ => simp only [Do.next2, wtD, wtP]; omega
theorem Do.next3_lt (p : Pr) (l : List Do) (v : Nat) : wtDs (Do.next3 p l v) < wtDs (.pr p :: l) := by
  rw [wtDs_cons]
  cases p with
  | wld k => cases k <;> simp only [Do.next3, wtDs_cons, wtD, wtP] <;> omega
  | _ => simp only [Do.next3, wtD, wtP]; omega
theorem Do.next_map (p : Pr) (ps : List Pr) : Do.next p (ps.map .pr) = (p.next ps).map .pr := by cases p <;> rfl
theorem Do.next2_map (p : Pr) (ps : List Pr) : Do.next2 p (ps.map .pr) = (p.next2 ps).map .pr := by
  cases p with
  | cas v k => cases k <;> rfl
  | sel c v s k => simp [Do.next2, Pr.next2, List.map_drop]
  | dec k => simp [Do.next2, Pr.next2, List.map_drop]
  | _ => rfl
theorem Do.next3_map (p : Pr) (ps : List Pr) (v : Nat) : Do.next3 p (ps.map .pr) v = (p.next3 ps v).map .pr := by
  cases p with
  | wld k => cases k <;> rfl
  | _ => rfl

def AtFork (T ch G T' cs : List Nat) (kid : List Pr) (Next : Goroutine → World → Prop) (g : Goroutine) (w : World) : Prop :=
  g.status = .running ∧ ∃ g' child w' es, stepG P true g w = .spawn g' child w' es ∧ DM ty Wg T ch G w w' es ∧
    (∀ c ∈ cs, c ∉ T' ++ T ∧ c ∉ ch ∧ ∃ s r tm, w'.heap[c]? = some (.chan 0 #[] false s r tm)) ∧ (∀ b ∈ T', b ∉ cs ++ ch ∧ b ∉ G ∧ b < w'.heap.size) ∧ child.status = .running ∧ FollowW P z ty Wg T' 0 kid child w' ∧ Next g' w'

/-- The group's block is made. -/
def AtMkg (Next : Goroutine → World → Prop) (g : Goroutine) (w : World) : Prop :=
  g.status = .running ∧ w.heap.size = Wg ∧ ∃ g' w', stepG P true g w = .go g' w' #[] ∧ w'.heap = w.heap.push (wgBlock ty.1 0 0) ∧ Next g' w'

/-- A channel is made. -/
def AtMkc (c : Nat) (Next : Goroutine → World → Prop) (g : Goroutine) (w : World) : Prop :=
  g.status = .running ∧ w.heap.size = c ∧ ∃ g' w' s r tm, stepG P true g w = .go g' w' #[] ∧ w'.heap = w.heap.push (.chan 0 #[] false s r tm) ∧ Next g' w'

/-- GOROUTINE 0 FOLLOWS ITS SCRIPT. -/
def FollowM (al : List Do) : List Nat → List Nat → List Nat → Goroutine → World → Prop :=
  match al with
  | [] => fun T ch G g w => ∃ n, Goes P true (RC ty Wg ch) (DM ty Wg T ch G) (AtEnd Post T ch G) n g w
  | .pr p :: al => fun T ch G g w => ∃ n, Goes P true (RC ty Wg ch) (DM ty Wg T ch G)
      (fun g' w' => AtP P z ty Wg true (RC ty Wg ch) (EvM T G) (FollowM (Do.next p al) T ch G) (FollowM (Do.next2 p al) T ch G) (fun v => FollowM (Do.next3 p al v) T ch G) g' w' p) n g w
  | .fork T' cs kid :: al => fun T ch G g w => ∃ n, Goes P true (RC ty Wg ch) (DM ty Wg T ch G) (AtFork P z ty Wg T ch G T' cs kid (FollowM al (T' ++ T) (cs ++ ch) G)) n g w
  | .mkg :: al => fun T ch G g w => ∃ n, Goes P true (RC ty Wg ch) (DM ty Wg T ch G) (AtMkg P ty Wg (FollowM al T (Wg :: ch) (Wg :: G))) n g w
  | .mkc c :: al => fun T ch G g w => ∃ n, Goes P true (RC ty Wg ch) (DM ty Wg T ch G) (AtMkc P c (FollowM al T (c :: ch) G)) n g w
termination_by wtDs al
decreasing_by
  · exact Do.next_lt p al
  · exact Do.next2_lt p al
  · exact Do.next3_lt p al v
  · rw [wtDs_cons]; simp only [wtD]; omega
  · rw [wtDs_cons]; simp only [wtD]; omega
  · rw [wtDs_cons]; simp only [wtD]; omega
end
end Go.Proofs.Ytplndihadjfliaa.Mix
/-
  A NET OF GOROUTINES WITH select AND sync.WaitGroup: what holds of the trace.
-/
set_option linter.unusedSimpArgs false
set_option linter.unusedVariables false
namespace Go.Proofs.Ytplndihadjfliaa.Mix
open Go Go.Conc Go.ConcN
open Go.ConcR (KK wgBlock WgAt stA smA rd wr mk)

abbrev ShG (G : List Nat) : Loc → Prop := fun l => ∃ ad, l = .cell ad ∧ ad.block ∈ G
abbrev NoOwn : Nat → Loc → Prop := fun _ _ => False
abbrev RdT (Ts : Nat → List Nat) : Nat → Loc → Prop := fun k l => In (Ts k) l
theorem apart {G : List Nat} {Ts : Nat → List Nat} (h : ∀ k b, b ∈ Ts k → b ∉ G) : Apart (ShG G) NoOwn (RdT Ts) :=
  ⟨fun _ _ _ h => h.elim, fun _ _ _ h => h.elim, fun _ _ h => h.elim, fun k l hr hs => by
    obtain ⟨ad, rfl, hG⟩ := hs
    rcases hr with ⟨b, hb, hT⟩ | ⟨c, hc⟩
    · simp only [blk, Option.some.injEq] at hb; subst hb; exact h k _ hT hG
    · cases hc⟩

/-- Nothing that goroutine j still does counts. -/
def Abs.out (a : Abs) (j : Nat) : Prop := a.sc j = [] ∨ a.rel j = true

structure Tr (Ts : Nat → List Nat) (a : Abs) (B : Nat) (t : Trace) : Prop where
  ct : CT (ShG a.G) NoOwn (RdT Ts) t (a.n - 1)
  df : ∀ g, g < a.n → Deaf t g = a.df g
  low : ∀ (i : Nat) (op : MemOp) (x : Touch) (ad : Addr), t[i]? = some op → op.act.touch? = some x → x.loc = .cell ad → ad.block < B
  nr : ∀ ad, NoRelease ad t
  kn : ∀ i j, i < a.n → j ∈ a.kn i → j ≠ 0 ∧ j < a.n ∧ a.out j ∧ ∀ q, t.g? q = some j → t.counts q → Knows t i q
  kc : ∀ c, a.shut c = true → ∃ pc, t.act? pc = some (.close c) ∧ t.heard pc ∧ ∀ j ∈ a.kc c, j ≠ 0 ∧ j < a.n ∧ a.out j ∧ ∀ q, t.g? q = some j → t.counts q → Before t q pc
  rel : ∀ j, j < a.n → a.rel j = true → j ≠ 0 ∧ ∃ r, RelBy (stA a.wg) t j r

theorem no_counts_none {t : Trace} {q : Nat} {op : MemOp} (h : t[q]? = some op) (ht : op.act.touch? = none) : ¬ t.counts q := by
  rintro ⟨x, hx, _⟩
  rw [act?_of h] at hx
  simp [ht] at hx

theorem deafBehind_other (d : Nat) {es : Array Event} (h : ∀ e ∈ es, e.loc ≠ .mark .disable ∧ e.loc ≠ .mark .enable) : deafBehind d es = d := by
  obtain ⟨l⟩ := es
  simp only [deafBehind, List.foldl_toArray']
  have h' : ∀ e ∈ l, e.loc ≠ .mark .disable ∧ e.loc ≠ .mark .enable := fun e he => h e (by simpa using he)
  clear h
  induction l generalizing d with
  | nil => rfl
  | cons e l ih =>
    rw [List.foldl_cons]
    have h1 := h' e (by simp)
    have key : deafBehind d #[e] = d := by
      obtain ⟨loc, wr, sy⟩ := e
      cases loc with
      | mark m => cases m <;> first | rfl | exact absurd rfl h1.1 | exact absurd rfl h1.2
      | _ => rfl
    show List.foldl _ (deafBehind d #[e]) l = d
    rw [key]
    exact ih d fun e he => h' e (by simp [he])
theorem deafBehind_neutral (d : Nat) {es : Array Event} (h : ∀ e ∈ es, ∀ m, e.loc = .mark m → Neutral m) : deafBehind d es = d :=
  deafBehind_other d fun e he => ⟨fun hl => (h e he _ hl).ne_disable rfl, fun hl => (h e he _ hl).ne_enable rfl⟩

/-- Entries that name no place, or are atomic accesses made deaf, do not count. -/
theorem nocount {t : Trace} {k : Nat} {fn : FuncId} {pos : String} {es : Array Event}
    (hes : ∀ j e, es[j]? = some e → (MemAct.ofEvent e).touch? = none ∨ ((∃ ad wr, e = ⟨.cell ad, wr, true⟩) ∧ 0 < deafBehind (Deaf t k) (es.extract 0 j))) :
    ∀ q, t.size ≤ q → ¬ (t ++ MemOp.ofEvents k fn pos es).counts q := by
  intro i hi hc
  obtain ⟨x, hx, _, hk⟩ := hc
  obtain ⟨act, hact, hxt⟩ := Option.bind_eq_some_iff.1 hx
  obtain ⟨op, ho, rfl⟩ := Option.map_eq_some_iff.1 hact
  have hj : (MemOp.ofEvents k fn pos es)[i - t.size]? = some op := by
    rw [Array.getElem?_append] at ho
    simpa [Nat.not_lt.2 hi] using ho
  rw [ofEvents_eq, Array.getElem?_map] at hj
  obtain ⟨e, he, rfl⟩ := Option.map_eq_some_iff.1 hj
  have hjs : i - t.size ≤ es.size := by
    rcases Nat.lt_or_ge (i - t.size) es.size with h' | h'
    · omega
    · rw [Array.getElem?_eq_none h'] at he; cases he
  rcases hes _ e he with h0 | ⟨⟨ad, wr, rfl⟩, hd⟩
  · simp only at hxt; rw [h0] at hxt; cases hxt
  · have hxk : x.kind = .atomic := by
      cases wr <;> simp [MemAct.ofEvent, MemAct.touch?] at hxt <;> subst hxt <;> rfl
    rcases hk with hk | ⟨g, hg, hdf⟩
    · exact hk hxk
    · have hg1 : g = k := by simp [Trace.g?, ho] at hg; exact hg.symm
      subst hg1
      have := deaf_inside t g fn pos es (i - t.size) hjs
      rw [show t.size + (i - t.size) = i by omega, hdf] at this
      omega

theorem mem_ofEvents {i : Nat} {fn : FuncId} {pos : String} {es : Array Event} {op : MemOp} (h : op ∈ MemOp.ofEvents i fn pos es) : ∃ e ∈ es, op = { g := i, fn, pos, act := .ofEvent e } := by
  rw [ofEvents_eq] at h
  obtain ⟨e, he, rfl⟩ := Array.mem_map.1 h
  exact ⟨e, he, rfl⟩

theorem norel_touch {e : Event} (h : ∀ m, e.loc = .mark m → ∀ ad, m ≠ .release ad) (ad : Addr) : MemAct.ofEvent e ≠ .mark (.release ad) := fun he => h _ (Go.ConcR.loc_of_ofEvent he) ad rfl

section
variable {Ts : Nat → List Nat} {a : Abs} {B B' : Nat} {t u : Trace}

theorem new_op {q : Nat} {j : Nat} (hq : t.size ≤ q) (h : (t ++ u).g? q = some j) : ∃ op ∈ u, op.g = j ∧ (t ++ u)[q]? = some op := by
  obtain ⟨op, ho, hg⟩ := Option.map_eq_some_iff.1 h
  rcases getElem?_append_cases ho with ⟨hlt, _⟩ | ⟨_, hm⟩
  · omega
  · exact ⟨op, hm, hg, ho⟩

/-- THE TRACE GROWS. -/
theorem Tr.grow (h : Tr Ts a B t) (hct : CT (ShG a.G) NoOwn (RdT Ts) (t ++ u) (a.n - 1)) (hB : B ≤ B')
    (hlow : ∀ op ∈ u, ∀ x ad, op.act.touch? = some x → x.loc = .cell ad → ad.block < B') (hnr : ∀ op ∈ u, ∀ ad, op.act ≠ .mark (.release ad))
    (hout : ∀ j, j ≠ 0 → j < a.n → a.out j → ∀ q, t.size ≤ q → (t ++ u).g? q = some j → ¬ (t ++ u).counts q)
    {d : Nat → Nat} (hd : ∀ g, g < a.n → Deaf (t ++ u) g = d g) : Tr Ts { a with df := d } B' (t ++ u) := by
  refine ⟨hct, hd, fun i op x ad hi hx hl => ?_, fun ad i hi => ?_, fun i j hi hj => ?_, fun c hc => ?_, fun j hj hr => ?_⟩
  · rcases getElem?_append_cases hi with ⟨_, hi'⟩ | ⟨_, hm⟩
    · exact Nat.lt_of_lt_of_le (h.low i op x ad hi' hx hl) hB
    · exact hlow op hm x ad hx hl
  · obtain ⟨op, ho, hact⟩ := Option.map_eq_some_iff.1 hi
    rcases getElem?_append_cases ho with ⟨_, hi'⟩ | ⟨_, hm⟩
    · exact h.nr ad i (by rw [act?_of hi', hact])
    · exact hnr op hm ad hact
  · obtain ⟨j0, jn, jo, hk⟩ := h.kn i j hi hj
    refine ⟨j0, jn, jo, fun q hq hc => ?_⟩
    rcases Nat.lt_or_ge q t.size with hlt | hge
    · exact (hk q (by rw [← g?_old (u := u) hlt]; exact hq) ((counts_old hlt).1 hc)).app u
    · exact absurd hc (hout j j0 jn jo q hge hq)
  · obtain ⟨pc, hp, hh, hk⟩ := h.kc c hc
    have hlt := lt_of_act? hp
    refine ⟨pc, by rw [act?_old hlt]; exact hp, (heard_old hlt).2 hh, fun j hj => ?_⟩
    obtain ⟨j0, jn, jo, hk⟩ := hk j hj
    refine ⟨j0, jn, jo, fun q hq hc => ?_⟩
    rcases Nat.lt_or_ge q t.size with hlt | hge
    · exact (hk q (by rw [← g?_old (u := u) hlt]; exact hq) ((counts_old hlt).1 hc)).app u
    · exact absurd hc (hout j j0 jn jo q hge hq)
  · obtain ⟨j0, r, hr'⟩ := h.rel j hj hr
    exact ⟨j0, r, hr'.app fun i hi hg => hout j j0 hj (.inr hr) i hi hg⟩

/-- The abstract net goes on. -/
theorem Tr.abs (h : Tr Ts a B t) {a' : Abs} (hn : a'.n = a.n) (hG : a'.G = a.G) (hw : a'.wg = a.wg) (hs : a'.shut = a.shut) (hkn : a'.kn = a.kn) (hkc : a'.kc = a.kc) (hdf : a'.df = a.df) (hrel : a'.rel = a.rel) (ho : ∀ j, a.out j → a'.out j) : Tr Ts a' B t := by
  refine ⟨by rw [hG, hn]; exact h.ct, by rw [hn, hdf]; exact h.df, h.low, h.nr, fun i j hi hj => ?_, fun c hc => ?_, fun j hj hr => ?_⟩
  · rw [hn] at hi ⊢
    rw [hkn] at hj
    obtain ⟨x1, x2, x3, x4⟩ := h.kn i j hi hj
    exact ⟨x1, x2, ho _ x3, x4⟩
  · rw [hs] at hc
    rw [hn, hkc]
    obtain ⟨pc, y1, y2, y3⟩ := h.kc c hc
    exact ⟨pc, y1, y2, fun j hj => let ⟨x1, x2, x3, x4⟩ := y3 j hj; ⟨x1, x2, ho _ x3, x4⟩⟩
  · rw [hn] at hj
    rw [hrel] at hr
    rw [hw]
    exact h.rel j hj hr

theorem Tr.weak (h : Tr Ts a B t) (hB : B ≤ B') : Tr Ts a B' t := ⟨h.ct, h.df, fun i op x ad h1 h2 h3 => Nat.lt_of_lt_of_le (h.low i op x ad h1 h2 h3) hB, h.nr, h.kn, h.kc, h.rel⟩

theorem put_self {α : Type} (f : Nat → α) (i : Nat) : put f i (f i) = f := by
  funext j; unfold put; split
  · rename_i e; rw [e]
  · rfl

theorem deaf_put {i : Nat} (h : ∀ g, g < a.n → Deaf t g = a.df g) (hu : ∀ op ∈ u, op.g = i) {d' : Nat} (hd : i < a.n → Deaf (t ++ u) i = d') : ∀ g, g < a.n → Deaf (t ++ u) g = put a.df i d' g := by
  intro g hg
  by_cases hgi : g = i
  · subst hgi; rw [put_same]; exact hd hg
  · rw [put_ne _ _ hgi, Deaf_other t (fun e => hgi e.symm) u hu]; exact h g hg

/-- What an entry of goroutine 0's touches. -/
theorem evM_touch {T : List Nat} {G : List Nat} {e : Event} {x : Touch} (h : EvM T G B' e) (hx : (MemAct.ofEvent e).touch? = some x) :
    (∃ b ∈ G, b < B' ∧ x.loc = .cell (smA b) ∧ x.kind = .said) ∨ (x.loc = e.loc ∧ x.write = e.write ∧ (e.write = true → ¬ In T e.loc) ∧ ∀ ad, e.loc = .cell ad → ad.block ∉ G ∧ ad.block < B') := by
  rcases h with ⟨b, hb, hlt, hl⟩ | ⟨h1, h2, h3⟩
  · left
    rcases hl with hl | hl <;> rw [Go.ConcR.ofEvent_loc_mark hl] at hx <;> simp only [MemAct.touch?, Option.some.injEq] at hx <;> subst hx <;> exact ⟨b, hb, hlt, rfl, rfl⟩
  · obtain ⟨e1, e2⟩ := ofEvent_touch h1 hx
    exact .inr ⟨e1, e2, h2, h3⟩
theorem evM_deaf {T : List Nat} {G : List Nat} {es : Array Event} (d : Nat) (h : ∀ e ∈ es, EvM T G B' e) : deafBehind d es = d := by
  refine deafBehind_other d fun e he => ?_
  rcases h e he with ⟨b, hb, hlt, hl⟩ | ⟨h1, _⟩
  · rcases hl with hl | hl <;> rw [hl] <;> exact ⟨by simp, by simp⟩
  · exact ⟨fun hl => (h1 _ hl).ne_disable rfl, fun hl => (h1 _ hl).ne_enable rfl⟩
theorem evM_norel {T : List Nat} {G : List Nat} {e : Event} (h : EvM T G B' e) (ad : Addr) : MemAct.ofEvent e ≠ .mark (.release ad) := by
  refine norel_touch (fun m hm ad' hmm => ?_) ad
  rcases h with ⟨b, hb, hlt, hl⟩ | ⟨h1, _⟩
  · rcases hl with hl | hl <;> rw [hl] at hm <;> cases hm <;> cases hmm
  · have := h1 m hm; rw [hmm] at this; cases this

/-- Entries of goroutine 0's. -/
theorem Tr.own0 (h : Tr Ts a B t) {T : List Nat} {fn : FuncId} {pos : String} {es : Array Event} (hn : 0 < a.n) (hA : ∀ k b, b ∈ Ts k → b ∉ a.G) (hT : ∀ k, k ≠ 0 → k < a.n → ∀ b ∈ Ts k, b ∈ T) (hB : B ≤ B') (hes : ∀ e ∈ es, EvM T a.G B' e) :
    Tr Ts a B' (t ++ MemOp.ofEvents 0 fn pos es) := by
  have hg : ∀ op ∈ MemOp.ofEvents 0 fn pos es, op.g = 0 := fun op hop => by obtain ⟨e, he, rfl⟩ := mem_ofEvents hop; rfl
  have hd : Deaf (t ++ MemOp.ofEvents 0 fn pos es) 0 = a.df 0 := by rw [Deaf_own, evM_deaf _ hes, h.df 0 hn]
  have := h.grow (u := MemOp.ofEvents 0 fn pos es) (B' := B') (h.ct.app0 (apart hA) fun op hop => ?_) hB (fun op hop x ad hx hl => ?_) (fun op hop ad => ?_) (fun j j0 hj ho q hq hgq => ?_) (deaf_put h.df hg (d' := a.df 0) fun _ => hd)
  · rw [put_self] at this; exact this
  · obtain ⟨e, he, rfl⟩ := mem_ofEvents hop
    refine ⟨rfl, fun x hx => ?_⟩
    rcases evM_touch (hes e he) hx with ⟨b, hb, hlt, hl, hk⟩ | ⟨h1, h2, h3, h4⟩
    · exact .inl ⟨⟨_, hl, hb⟩, by rw [hk]; simp⟩
    refine .inr ⟨?_, fun _ _ _ => id, fun hw k k1 kj hr => ?_⟩
    · rintro ⟨ad, hl, hG⟩
      exact (h4 ad (by rw [← h1]; exact hl)).1 hG
    · refine h3 (h2 ▸ hw) ?_
      rcases hr with ⟨b, hb, hbT⟩ | ⟨c, hc⟩
      · exact .inl ⟨b, h1 ▸ hb, hT k (by omega) (by omega) b hbT⟩
      · exact .inr ⟨c, h1 ▸ hc⟩
  · obtain ⟨e, he, rfl⟩ := mem_ofEvents hop
    rcases evM_touch (hes e he) hx with ⟨b, hb, hlt, hl', hk⟩ | ⟨h1, h2, h3, h4⟩
    · rw [hl'] at hl; cases hl; exact hlt
    · exact (h4 ad (by rw [← h1]; exact hl)).2
  · obtain ⟨e, he, rfl⟩ := mem_ofEvents hop
    exact evM_norel (hes e he) ad
  · obtain ⟨op, hop, hg', _⟩ := new_op hq hgq
    rw [hg op hop] at hg'
    exact absurd hg'.symm j0

/-- Entries of a worker's that is still counted. -/
theorem Tr.ownW (h : Tr Ts a B t) {k : Nat} {fn : FuncId} {pos : String} {es : Array Event} (hA : ∀ k b, b ∈ Ts k → b ∉ a.G) (hTB : ∀ b ∈ Ts k, b < B) (k0 : k ≠ 0) (kn : k < a.n) (hs : ¬ a.out k) (hes : ∀ e ∈ es, EvW (Ts k) e) :
    Tr Ts a B (t ++ MemOp.ofEvents k fn pos es) := by
  have hg : ∀ op ∈ MemOp.ofEvents k fn pos es, op.g = k := fun op hop => by obtain ⟨e, he, rfl⟩ := mem_ofEvents hop; rfl
  have hd : Deaf (t ++ MemOp.ofEvents k fn pos es) k = a.df k := by rw [Deaf_own, deafBehind_neutral _ fun e he => (hes e he).1, h.df k kn]
  have tch : ∀ e ∈ es, ∀ x, (MemAct.ofEvent e).touch? = some x → x.loc = e.loc ∧ In (Ts k) x.loc ∧ x.write = false := by
    intro e he x hx
    obtain ⟨h1, h2⟩ := ofEvent_touch (hes e he).1 hx
    rcases (hes e he).2 with ⟨m, hmk⟩ | ⟨hw, hin⟩
    · have hn := (hes e he).1 m hmk
      rw [Go.ConcR.ofEvent_loc_mark hmk, hn.touch] at hx
      cases hx
    · exact ⟨h1, by rw [h1]; exact hin, h2 ▸ hw⟩
  have := h.grow (u := MemOp.ofEvents k fn pos es) (B' := B) (h.ct.appW (apart hA) (k := k) (by omega) (by omega) fun op hop => ?_) (Nat.le_refl _) (fun op hop x ad hx hl => ?_) (fun op hop ad => ?_) (fun j j0 hj ho q hq hgq => ?_) (deaf_put h.df hg (d' := a.df k) fun _ => hd)
  · rw [put_self] at this; exact this
  · obtain ⟨e, he, rfl⟩ := mem_ofEvents hop
    refine ⟨rfl, fun x hx => .inr (.inr ?_)⟩
    obtain ⟨_, h2, h3⟩ := tch e he x hx
    exact ⟨h2, h3⟩
  · obtain ⟨e, he, rfl⟩ := mem_ofEvents hop
    obtain ⟨_, h2, _⟩ := tch e he x hx
    rw [hl] at h2
    rcases h2 with ⟨b, hb, hbT⟩ | ⟨c, hc⟩
    · simp only [blk, Option.some.injEq] at hb; subst hb; exact hTB _ hbT
    · cases hc
  · obtain ⟨e, he, rfl⟩ := mem_ofEvents hop
    exact norel_touch (fun m hm ad' hmm => by have := (hes e he).1 m hm; rw [hmm] at this; cases this) ad
  · obtain ⟨op, hop, hg', _⟩ := new_op hq hgq
    rw [hg op hop] at hg'
    subst hg'
    exact absurd ho hs

/-- Words 'disable' and 'enable', atomic accesses to a group's cells: by whomever. -/
theorem Tr.bk (h : Tr Ts a B t) {i : Nat} {fn : FuncId} {pos : String} {es : Array Event} (hA : ∀ k b, b ∈ Ts k → b ∉ a.G) (hi : i < a.n) (hB : B ≤ B') (hG : ∀ b ∈ a.G, b < B')
    (hes : ∀ e ∈ es, e.loc = .mark .disable ∨ e.loc = .mark .enable ∨ ∃ ad wr, e = ⟨.cell ad, wr, true⟩ ∧ ad.block ∈ a.G)
    (hq : i ≠ 0 → a.out i → ∀ j e, es[j]? = some e → (MemAct.ofEvent e).touch? = none ∨ ((∃ ad wr, e = ⟨.cell ad, wr, true⟩) ∧ 0 < deafBehind (a.df i) (es.extract 0 j))) :
    Tr Ts { a with df := put a.df i (deafBehind (a.df i) es) } B' (t ++ MemOp.ofEvents i fn pos es) := by
  have hg : ∀ op ∈ MemOp.ofEvents i fn pos es, op.g = i := fun op hop => by obtain ⟨e, he, rfl⟩ := mem_ofEvents hop; rfl
  have hd : Deaf (t ++ MemOp.ofEvents i fn pos es) i = deafBehind (a.df i) es := by rw [Deaf_own, h.df i hi]
  have tch : ∀ e ∈ es, ∀ x, (MemAct.ofEvent e).touch? = some x → ∃ ad, x.loc = .cell ad ∧ ad.block ∈ a.G ∧ x.kind = .atomic := by
    intro e he x hx
    rcases hes e he with h1 | h1 | ⟨ad, wr, rfl, ha⟩
    · rw [Go.ConcR.ofEvent_loc_mark h1] at hx; cases hx
    · rw [Go.ConcR.ofEvent_loc_mark h1] at hx; cases hx
    · simp only [Go.ConcR.ofEvent_cell, MemAct.touch?, Option.some.injEq] at hx
      subst hx
      exact ⟨ad, rfl, ha, rfl⟩
  refine h.grow (u := MemOp.ofEvents i fn pos es) (B' := B') ?_ hB (fun op hop x ad hx hl => ?_) (fun op hop ad => ?_) (fun j j0 hj ho q hq' hgq => ?_) (deaf_put h.df hg (d' := deafBehind (a.df i) es) fun _ => hd)
  · by_cases i0 : i = 0
    · subst i0
      refine h.ct.app0 (apart hA) fun op hop => ?_
      obtain ⟨e, he, rfl⟩ := mem_ofEvents hop
      refine ⟨rfl, fun x hx => .inl ?_⟩
      obtain ⟨ad, h1, h2, h3⟩ := tch e he x hx
      exact ⟨⟨ad, h1, h2⟩, by rw [h3]; simp⟩
    · refine h.ct.appW (apart hA) (k := i) (by omega) (by omega) fun op hop => ?_
      obtain ⟨e, he, rfl⟩ := mem_ofEvents hop
      refine ⟨rfl, fun x hx => .inl ?_⟩
      obtain ⟨ad, h1, h2, h3⟩ := tch e he x hx
      exact ⟨⟨ad, h1, h2⟩, by rw [h3]; simp, by rw [h3]; simp⟩
  · obtain ⟨e, he, rfl⟩ := mem_ofEvents hop
    obtain ⟨ad', h1, h2, _⟩ := tch e he x hx
    rw [hl] at h1
    cases h1
    exact hG _ h2
  · obtain ⟨e, he, rfl⟩ := mem_ofEvents hop
    refine norel_touch (fun m hm ad' hmm => ?_) ad
    rcases hes e he with h1 | h1 | ⟨ad, wr, rfl, ha⟩
    · rw [h1] at hm; cases hm; cases hmm
    · rw [h1] at hm; cases hm; cases hmm
    · cases hm
  · obtain ⟨op, hop, hg', _⟩ := new_op hq' hgq
    rw [hg op hop] at hg'
    subst hg'
    refine nocount (fun k e hk => ?_) q hq'
    rw [h.df i hi]
    exact hq j0 ho k e hk

/-- Operations that touch no memory and say no word. -/
theorem Tr.silent (ops : List MemOp) : ∀ {t : Trace}, Tr Ts a B t → (∀ k b, b ∈ Ts k → b ∉ a.G) → 0 < a.n → (∀ op ∈ ops, op.g < a.n ∧ op.act.touch? = none ∧ ∀ m, op.act ≠ .mark m) → Tr Ts a B (t ++ ops.toArray) := by
  induction ops with
  | nil => intro t h _ _ _; simpa using h
  | cons x ops ih =>
    intro t h hA hn ho
    have e : t ++ (x :: ops).toArray = (t ++ #[x]) ++ ops.toArray := by apply Array.ext'; simp
    rw [e]
    obtain ⟨hg, ht, hm⟩ := ho x (by simp)
    have hx : ∀ op ∈ (#[x] : Trace), op = x := fun op hop => by simpa using hop
    have hct : CT (ShG a.G) NoOwn (RdT Ts) (t ++ #[x]) (a.n - 1) := by
      by_cases h0 : x.g = 0
      · exact h.ct.app0 (apart hA) fun op hop => ⟨by rw [hx op hop]; exact h0, fun y hy => by rw [hx op hop, ht] at hy; cases hy⟩
      · exact h.ct.appW (apart hA) (k := x.g) (by omega) (by omega) fun op hop => ⟨by rw [hx op hop], fun y hy => by rw [hx op hop, ht] at hy; cases hy⟩
    have hd : ∀ g, g < a.n → Deaf (t ++ #[x]) g = a.df g := fun g hg => by
      rw [Deaf_push, h.df g hg]
      unfold deafStep
      split
      · rename_i hh; exact absurd hh (hm _)
      · rename_i hh; exact absurd hh (hm _)
      · rfl
    have hN := h.grow (B' := B) hct (Nat.le_refl _) (fun op hop y ad hy _ => by rw [hx op hop, ht] at hy; cases hy) (fun op hop ad => by rw [hx op hop]; exact hm _)
      (fun j _ _ _ q hq hgq => by obtain ⟨op, hop, _, hat⟩ := new_op hq hgq; exact no_counts_none hat (by rw [hx op hop]; exact ht)) hd
    exact ih hN hA hn fun op hop => ho op (by simp [hop])

theorem Tr.silent' (h : Tr Ts a B t) (hA : ∀ k b, b ∈ Ts k → b ∉ a.G) (hn : 0 < a.n) (ops : Array MemOp) (ho : ∀ op ∈ ops, op.g < a.n ∧ op.act.touch? = none ∧ ∀ m, op.act ≠ .mark m) : Tr Ts a B (t ++ ops) := by
  have := Tr.silent ops.toList h hA hn fun op hop => ho op (by simpa using hop)
  simpa using this

/-- Goroutine i has found channel c closed. -/
theorem Tr.seen (h : Tr Ts a B t) (hA : ∀ k b, b ∈ Ts k → b ∉ a.G) {i c : Nat} {al : List Do} (hn : 0 < a.n) (hi : a.sc i ≠ []) (hin : i < a.n) (hd : a.df i = 0) (hc : a.shut c = true) {fn : FuncId} {pos : String} : Tr Ts (a.seen i c al) B (t ++ #[{ g := i, fn, pos, act := .recvClosed c }]) := by
  have h' := h.silent' hA hn #[{ g := i, fn, pos, act := .recvClosed c }] (by simp [hin, MemAct.touch?])
  have hs : ∀ k, a.out k → (a.seen i c al).out k := by
    intro k hk
    rcases hk with hk | hk
    · have h1 : k ≠ i := fun e => hi (e ▸ hk)
      left; simp [Abs.seen, put, h1, hk]
    · exact .inr hk
  have hy : (t ++ #[({ g := i, fn, pos, act := .recvClosed c } : MemOp)])[t.size]? = some { g := i, fn, pos, act := .recvClosed c } := by simp
  have hyh : (t ++ #[({ g := i, fn, pos, act := .recvClosed c } : MemOp)]).heard t.size := ⟨i, by simp [Trace.g?], by rw [deaf_old (Nat.le_refl _)]; rw [← hd]; exact h.df i hin⟩
  refine ⟨h'.ct, h'.df, h'.low, h'.nr, fun i' j' hi' hj' => ?_, fun c' hc' => ?_, h'.rel⟩
  · by_cases hii : i' = i
    · subst hii
      simp only [Abs.seen, put, if_true, List.mem_append] at hj'
      rcases hj' with hj' | hj'
      · obtain ⟨pc, y1, y2, y3⟩ := h'.kc c hc
        obtain ⟨x1, x2, x3, x4⟩ := y3 j' hj'
        refine ⟨x1, x2, hs _ x3, fun q hq hc => ?_⟩
        have edge : HappensBefore (t ++ #[({ g := i', fn, pos, act := .recvClosed c } : MemOp)]) pc t.size :=
          .single (.inr ⟨.closed (c := c) y1 (by rw [act?_of hy]), y2, hyh⟩)
        exact ⟨t.size, _, hy, rfl, .inr ((x4 q hq hc).hb edge)⟩
      · obtain ⟨x1, x2, x3, x4⟩ := h'.kn i' j' hin hj'
        exact ⟨x1, x2, hs _ x3, x4⟩
    · simp only [Abs.seen, put, hii, if_false] at hj'
      obtain ⟨x1, x2, x3, x4⟩ := h'.kn i' j' hi' hj'
      exact ⟨x1, x2, hs _ x3, x4⟩
  · obtain ⟨pc, y1, y2, y3⟩ := h'.kc c' hc'
    exact ⟨pc, y1, y2, fun j' hj' => let ⟨x1, x2, x3, x4⟩ := y3 j' hj'; ⟨x1, x2, hs _ x3, x4⟩⟩

/-- Goroutine i has closed channel c. -/
theorem Tr.close (h : Tr Ts a B t) (hA : ∀ k b, b ∈ Ts k → b ∉ a.G) {i c : Nat} {al : List Do} (hn : 0 < a.n) (hi : a.sc i ≠ []) (hin : i < a.n) (hd : a.df i = 0) {fn : FuncId} {pos : String} : Tr Ts (a.close i c al) B (t ++ #[{ g := i, fn, pos, act := .close c }]) := by
  have h' := h.silent' hA hn #[{ g := i, fn, pos, act := .close c }] (by simp [hin, MemAct.touch?])
  have hs : ∀ k, a.out k → (a.close i c al).out k := by
    intro k hk
    rcases hk with hk | hk
    · have h1 : k ≠ i := fun e => hi (e ▸ hk)
      left; simp [Abs.close, put, h1, hk]
    · exact .inr hk
  have hy : (t ++ #[({ g := i, fn, pos, act := .close c } : MemOp)])[t.size]? = some { g := i, fn, pos, act := .close c } := by simp
  have hyh : (t ++ #[({ g := i, fn, pos, act := .close c } : MemOp)]).heard t.size := ⟨i, by simp [Trace.g?], by rw [deaf_old (Nat.le_refl _)]; rw [← hd]; exact h.df i hin⟩
  refine ⟨h'.ct, h'.df, h'.low, h'.nr, fun i' j' hi' hj' => ?_, fun c' hc' => ?_, h'.rel⟩
  · obtain ⟨x1, x2, x3, x4⟩ := h'.kn i' j' hi' hj'
    exact ⟨x1, x2, hs _ x3, x4⟩
  · by_cases hcc : c' = c
    · subst hcc
      refine ⟨t.size, by rw [act?_of hy], hyh, fun j hj => ?_⟩
      have own : ∀ q, (t ++ #[({ g := i, fn, pos, act := .close c' } : MemOp)]).counts q → q < t.size := by
        intro q hc
        rcases Nat.lt_or_ge q t.size with h1 | h1
        · exact h1
        · have hlt : q < (t ++ #[({ g := i, fn, pos, act := .close c' } : MemOp)]).size := by
            obtain ⟨x, hx, _⟩ := hc
            obtain ⟨act, hact, _⟩ := Option.bind_eq_some_iff.1 hx
            exact lt_of_act? hact
          have : q = t.size := by simp at hlt; omega
          subst this
          exact absurd hc (no_counts_none hy rfl)
      have fromKn : j ∈ a.kn i → j ≠ 0 ∧ j < a.n ∧ (a.close i c' al).out j ∧ ∀ q, (t ++ #[({ g := i, fn, pos, act := .close c' } : MemOp)]).g? q = some j → (t ++ #[({ g := i, fn, pos, act := .close c' } : MemOp)]).counts q → Before (t ++ #[({ g := i, fn, pos, act := .close c' } : MemOp)]) q t.size := by
        intro hj
        obtain ⟨x1, x2, x3, x4⟩ := h.kn i j hin hj
        refine ⟨x1, x2, hs _ x3, fun q hq hc => ?_⟩
        have hlt := own q hc
        exact .inr ((x4 q (by rw [← g?_old (u := #[({ g := i, fn, pos, act := .close c' } : MemOp)]) hlt]; exact hq) ((counts_old hlt).1 hc)).hb_new (Nat.le_refl _) hy rfl)
      have hj : j ∈ (if al = [] ∧ i ≠ 0 then i :: a.kn i else a.kn i) := by simpa [Abs.close, put] using hj
      by_cases hal : al = [] ∧ i ≠ 0
      · rw [if_pos hal] at hj
        rcases List.mem_cons.1 hj with rfl | hj
        · refine ⟨hal.2, hin, .inl (by simp [Abs.close, put, hal.1]), fun q hq hc => ?_⟩
          have hlt := own q hc
          obtain ⟨op, ho, hg⟩ := Option.map_eq_some_iff.1 hq
          exact .inr (hb_po hlt ho hy hg)
        · exact fromKn hj
      · rw [if_neg hal] at hj; exact fromKn hj
    · have hc2 : a.shut c' = true := by simpa [Abs.close, put, hcc] using hc'
      obtain ⟨pc, y1, y2, y3⟩ := h'.kc c' hc2
      refine ⟨pc, y1, y2, fun j' hj' => ?_⟩
      have hj' : j' ∈ a.kc c' := by simpa [Abs.close, put, hcc] using hj'
      obtain ⟨x1, x2, x3, x4⟩ := y3 j' hj'
      exact ⟨x1, x2, hs _ x3, x4⟩

/-- A word that touches nothing. -/
theorem Tr.word (h : Tr Ts a B t) (hA : ∀ k b, b ∈ Ts k → b ∉ a.G) {i : Nat} (hin : i < a.n) {m : Mark} {fn : FuncId} {pos : String} (hm : (MemAct.mark m).touch? = none) (hr : ∀ ad, m ≠ .release ad) :
    Tr Ts { a with df := put a.df i (saidDf m (a.df i)) } B (t ++ #[{ g := i, fn, pos, act := .mark m }]) := by
  have hx : ∀ op ∈ (#[{ g := i, fn, pos, act := .mark m }] : Trace), op = { g := i, fn, pos, act := .mark m } := fun op hop => by simpa using hop
  refine h.grow (B' := B) ?_ (Nat.le_refl _) (fun op hop y ad hy _ => by rw [hx op hop] at hy; rw [hm] at hy; cases hy) (fun op hop ad => by rw [hx op hop]; simpa using hr ad)
    (fun j _ _ _ q hq hgq => by obtain ⟨op, hop, _, hat⟩ := new_op hq hgq; exact no_counts_none hat (by rw [hx op hop]; exact hm)) (deaf_put h.df (fun op hop => by rw [hx op hop]) fun _ => ?_)
  · by_cases h0 : i = 0
    · exact h.ct.app0 (apart hA) fun op hop => ⟨by rw [hx op hop]; exact h0, fun y hy => by rw [hx op hop] at hy; rw [hm] at hy; cases hy⟩
    · exact h.ct.appW (apart hA) (k := i) (by omega) (by omega) fun op hop => ⟨by rw [hx op hop], fun y hy => by rw [hx op hop] at hy; rw [hm] at hy; cases hy⟩
  · rw [Deaf_push, h.df i hin]
    unfold deafStep saidDf
    cases m <;> simp

theorem saidDf_rm (ad : Addr) (d : Nat) : saidDf (.releaseMerge ad) d = d := rfl
theorem saidDf_acq (ad : Addr) (d : Nat) : saidDf (.acquire ad) d = d := rfl

/-- Its release. -/
theorem Tr.release (h : Tr Ts a B t) (hA : ∀ k b, b ∈ Ts k → b ∉ a.G) {i : Nat} {al : List Do} (i0 : i ≠ 0) (hi : a.sc i ≠ []) (hin : i < a.n) (hd : a.df i = 0) {fn : FuncId} {pos : String} :
    Tr Ts (a.say i (.releaseMerge (stA a.wg)) al) B (t ++ #[{ g := i, fn, pos, act := .mark (.releaseMerge (stA a.wg)) }]) := by
  have h' := h.word (fn := fn) (pos := pos) hA hin (m := .releaseMerge (stA a.wg)) rfl (fun ad => by simp)
  rw [saidDf_rm, put_self] at h'
  have hs : ∀ k, a.out k → (a.say i (.releaseMerge (stA a.wg)) al).out k := by
    intro k hk
    rcases hk with hk | hk
    · have h1 : k ≠ i := fun e => hi (e ▸ hk)
      left; simp [Abs.say, put, h1, hk]
    · right; simp [Abs.say, put, hk]
  have e1 : (a.say i (.releaseMerge (stA a.wg)) al).kn = a.kn := by simp [Abs.say]
  have e2 : (a.say i (.releaseMerge (stA a.wg)) al).df = a.df := by simp [Abs.say, saidDf_rm, put_self]
  refine ⟨h'.ct, by rw [e2]; exact h'.df, h'.low, h'.nr, fun i' j' hi' hj' => ?_, fun c' hc' => ?_, fun j hj hr => ?_⟩
  · rw [e1] at hj'
    obtain ⟨x1, x2, x3, x4⟩ := h'.kn i' j' hi' hj'
    exact ⟨x1, x2, hs _ x3, x4⟩
  · obtain ⟨pc, y1, y2, y3⟩ := h'.kc c' hc'
    exact ⟨pc, y1, y2, fun j' hj' => let ⟨x1, x2, x3, x4⟩ := y3 j' hj'; ⟨x1, x2, hs _ x3, x4⟩⟩
  · by_cases hji : j = i
    · subst hji
      have hn := RelBy.new (a := stA a.wg) (t := t) (k := j) (by rw [← hd]; exact h.df j hin) fn pos
      have e3 : MemOp.ofEvents j fn pos #[Go.ConcR.mk (.releaseMerge (stA a.wg))] = #[{ g := j, fn, pos, act := .mark (.releaseMerge (stA a.wg)) }] := by rw [ofEvents_eq]; simp [Go.ConcR.ofEvent_mk]
      rw [e3] at hn
      exact ⟨i0, _, hn⟩
    · have hr : a.rel j = true := by simpa [Abs.say, put, hji] using hr
      exact h'.rel j hj hr

/-- Goroutine 0 acquires what the others have released. -/
theorem Tr.acquire (h : Tr Ts a B t) (hA : ∀ k b, b ∈ Ts k → b ∉ a.G) {al : List Do} (hi : a.sc 0 ≠ []) (hn : 0 < a.n) (hd : a.df 0 = 0) {fn : FuncId} {pos : String} :
    Tr Ts (a.say 0 (.acquire (stA a.wg)) al) B (t ++ #[{ g := 0, fn, pos, act := .mark (.acquire (stA a.wg)) }]) := by
  have h' := h.word (fn := fn) (pos := pos) hA hn (m := .acquire (stA a.wg)) rfl (fun ad => by simp)
  rw [saidDf_acq, put_self] at h'
  have hs : ∀ k, a.out k → (a.say 0 (.acquire (stA a.wg)) al).out k := by
    intro k hk
    rcases hk with hk | hk
    · have h1 : k ≠ 0 := fun e => hi (e ▸ hk)
      left; simp [Abs.say, put, h1, hk]
    · right; simpa [Abs.say] using hk
  have e1 : (a.say 0 (.acquire (stA a.wg)) al).rel = a.rel := by simp [Abs.say]
  have e2 : (a.say 0 (.acquire (stA a.wg)) al).df = a.df := by simp [Abs.say, saidDf_acq, put_self]
  have hy : (t ++ #[({ g := 0, fn, pos, act := .mark (.acquire (stA a.wg)) } : MemOp)])[t.size]? = some { g := 0, fn, pos, act := .mark (.acquire (stA a.wg)) } := by simp
  have hyh : (t ++ #[({ g := 0, fn, pos, act := .mark (.acquire (stA a.wg)) } : MemOp)]).heard t.size := ⟨0, by simp [Trace.g?], by rw [deaf_old (Nat.le_refl _)]; exact (h.df 0 hn).trans hd⟩
  refine ⟨h'.ct, by rw [e2]; exact h'.df, h'.low, h'.nr, fun i' j' hi' hj' => ?_, fun c' hc' => ?_, fun j hj hr => ?_⟩
  · by_cases hii : i' = 0
    · subst hii
      have hj' : j' ∈ (List.range a.n).filter (fun j => a.rel j) ∨ j' ∈ a.kn 0 := by simpa [Abs.say, put] using hj'
      rcases hj' with hj' | hj'
      · obtain ⟨hr1, hr2⟩ := List.mem_filter.1 hj'
        have hjn : j' < a.n := List.mem_range.1 hr1
        obtain ⟨j0, r, hr⟩ := h.rel j' hjn hr2
        obtain ⟨_, r', hr'⟩ := h'.rel j' hjn hr2
        have hrl : r < t.size := lt_of_act? hr.act
        have hrn : RelBy (stA a.wg) (t ++ #[({ g := 0, fn, pos, act := .mark (.acquire (stA a.wg)) } : MemOp)]) j' r := hr.app fun q hq hgq => by
          obtain ⟨op, hop, hg', _⟩ := new_op hq hgq
          have : op = { g := 0, fn, pos, act := .mark (.acquire (stA a.wg)) } := by simpa using hop
          rw [this] at hg'
          exact absurd hg'.symm j0
        have edge : HappensBefore (t ++ #[({ g := 0, fn, pos, act := .mark (.acquire (stA a.wg)) } : MemOp)]) r t.size :=
          .single (.inr ⟨.marked hrl (.inr hrn.act) (by rw [act?_of hy]) (fun k _ _ => h'.nr _ k), hrn.heard, hyh⟩)
        refine ⟨j0, hjn, .inr (by rw [e1]; exact hr2), fun q hq hc => ?_⟩
        have hle : q ≤ r := Nat.le_of_not_lt fun hlt => hrn.after q hlt hq hc
        refine ⟨t.size, _, hy, rfl, .inr ?_⟩
        rcases Nat.lt_or_ge q r with hlt | hge
        · exact .trans (.single (.inl ⟨hlt, j', hq, hrn.g⟩)) edge
        · obtain rfl : q = r := by omega
          exact edge
      · obtain ⟨x1, x2, x3, x4⟩ := h'.kn 0 j' hn hj'
        exact ⟨x1, x2, hs _ x3, x4⟩
    · have hj' : j' ∈ a.kn i' := by simpa [Abs.say, put, hii] using hj'
      obtain ⟨x1, x2, x3, x4⟩ := h'.kn i' j' hi' hj'
      exact ⟨x1, x2, hs _ x3, x4⟩
  · obtain ⟨pc, y1, y2, y3⟩ := h'.kc c' hc'
    exact ⟨pc, y1, y2, fun j' hj' => let ⟨x1, x2, x3, x4⟩ := y3 j' hj'; ⟨x1, x2, hs _ x3, x4⟩⟩
  · rw [e1] at hr; exact h'.rel j hj hr

theorem ct_congr {Sh : Loc → Prop} {Own Rd Rd' : Nat → Loc → Prop} {t : Trace} {j : Nat} (h : CT Sh Own Rd t j) (e : ∀ k, 1 ≤ k → k ≤ j → ∀ l, Rd' k l ↔ Rd k l) : CT Sh Own Rd' t j :=
  ⟨h.quiet, h.own, fun k k1 kj l hl => h.rd k k1 kj l ((e k k1 kj l).1 hl), fun l hs hl => h.free l hs fun k k1 kj => ⟨(hl k k1 kj).1, fun hr => (hl k k1 kj).2 ((e k k1 kj l).2 hr)⟩, h.mine, h.nr, h.gs⟩

/-- A group's block is new: nobody has touched it. -/
theorem Tr.mkg (h : Tr Ts a B t) {al : List Do} (hw : B ≤ a.wg) (hB : B ≤ B') (h0 : a.sc 0 ≠ []) : Tr Ts (a.mkg al) B' t := by
  have hs : ∀ k, a.out k → (a.mkg al).out k := by
    intro k hk
    rcases hk with hk | hk
    · have h1 : k ≠ 0 := fun e => h0 (e ▸ hk)
      left; simp [Abs.mkg, put, h1, hk]
    · exact .inr hk
  have sub : ∀ l, ¬ ShG (a.wg :: a.G) l → ¬ ShG a.G l := fun l hn ⟨ad, h1, h2⟩ => hn ⟨ad, h1, by simp [h2]⟩
  refine ⟨⟨fun i op x hi hx hsh => ?_, h.ct.own, h.ct.rd, fun l hsl hl => h.ct.free l (sub l hsl) hl, fun l hsl hl => h.ct.mine l (sub l hsl) hl, h.ct.nr, h.ct.gs⟩, h.df, fun i op x ad h1 h2 h3 => Nat.lt_of_lt_of_le (h.low i op x ad h1 h2 h3) hB, h.nr, fun i j hi hj => ?_, fun c hc => ?_, h.rel⟩
  · obtain ⟨ad, h1, h2⟩ := hsh
    have h2 : ad.block = a.wg ∨ ad.block ∈ a.G := by simpa [Abs.mkg] using h2
    rcases h2 with h2 | h2
    · have := h.low i op x ad hi hx h1; omega
    · exact h.ct.quiet i op x hi hx ⟨ad, h1, h2⟩
  · obtain ⟨x1, x2, x3, x4⟩ := h.kn i j hi hj
    exact ⟨x1, x2, hs _ x3, x4⟩
  · obtain ⟨pc, y1, y2, y3⟩ := h.kc c hc
    exact ⟨pc, y1, y2, fun j' hj' => let ⟨x1, x2, x3, x4⟩ := y3 j' hj'; ⟨x1, x2, hs _ x3, x4⟩⟩

theorem Tr.fork (h : Tr Ts a B t) (hn : 0 < a.n) {T' cs : List Nat} {kid : List Pr} {al : List Do} (hA : ∀ k b, b ∈ put Ts a.n T' k → b ∉ a.G) (h0 : a.sc 0 ≠ []) (hd0 : a.df 0 = 0) {fn fn' : FuncId} {pos pos' : String} :
    Tr (put Ts a.n T') (a.fork cs kid al) B (t ++ #[{ g := 0, fn, pos, act := .go a.n }, { g := a.n, fn := fn', pos := pos', act := .start }]) := by
  have hct := ct_congr (Rd' := RdT (put Ts a.n T')) h.ct fun k k1 kj l => by
    have : k ≠ a.n := by omega
    simp [RdT, put, this]
  have hj : a.n - 1 + 1 = a.n := by omega
  have hdd : Deaf t 0 = 0 := by rw [h.df 0 hn, hd0]
  have hf := CT.fork (apart hA) hct (x := { g := 0, fn, pos, act := .go a.n }) (y := { g := a.n, fn := fn', pos := pos', act := .start }) ⟨rfl, by rw [hj]⟩ ⟨by rw [hj], rfl⟩ hdd
  rw [hj] at hf
  have hx : ∀ op ∈ (#[{ g := 0, fn, pos, act := .go a.n }, { g := a.n, fn := fn', pos := pos', act := .start }] : Trace), op.act.touch? = none ∧ ∀ m, op.act ≠ .mark m := by
    intro op hop
    simp only [List.mem_toArray, List.mem_cons, List.not_mem_nil, or_false] at hop
    rcases hop with rfl | rfl <;> simp [MemAct.touch?]
  have hs : ∀ k, k < a.n → a.out k → (a.fork cs kid al).out k := by
    intro k hk hk'
    have h2 : k ≠ a.n := by omega
    rcases hk' with hk' | hk'
    · have h1 : k ≠ 0 := fun e => h0 (e ▸ hk')
      left; simp [Abs.fork, put, h1, h2, hk']
    · right; simpa [Abs.fork, put, h2] using hk'
  have hnew : ∀ q, t.size ≤ q → ¬ (t ++ #[({ g := 0, fn, pos, act := .go a.n } : MemOp), { g := a.n, fn := fn', pos := pos', act := .start }]).counts q := by
    intro q hq hc
    obtain ⟨x, hx', _⟩ := hc
    obtain ⟨op, ho, hxo⟩ := touch_of hx'
    rcases getElem?_append_cases ho with ⟨h1, _⟩ | ⟨_, hm⟩
    · omega
    · rw [(hx op hm).1] at hxo; cases hxo
  have old : ∀ {q j : Nat}, (t ++ #[({ g := 0, fn, pos, act := .go a.n } : MemOp), { g := a.n, fn := fn', pos := pos', act := .start }]).g? q = some j → (t ++ #[({ g := 0, fn, pos, act := .go a.n } : MemOp), { g := a.n, fn := fn', pos := pos', act := .start }]).counts q → t.g? q = some j ∧ t.counts q := by
    intro q j hq hc
    rcases Nat.lt_or_ge q t.size with hlt | hge
    · exact ⟨by rw [← g?_old (u := #[({ g := 0, fn, pos, act := .go a.n } : MemOp), { g := a.n, fn := fn', pos := pos', act := .start }]) hlt]; exact hq, (counts_old hlt).1 hc⟩
    · exact absurd hc (hnew q hge)
  refine ⟨hf, fun g hg => ?_, fun i op x ad hi hx' hl => ?_, fun ad i hi => ?_, fun i j hi hjk => ?_, fun c hc => ?_, fun j hj hr => ?_⟩
  · have e : t ++ #[({ g := 0, fn, pos, act := .go a.n } : MemOp), { g := a.n, fn := fn', pos := pos', act := .start }] = (t ++ #[({ g := 0, fn, pos, act := .go a.n } : MemOp)]) ++ #[({ g := a.n, fn := fn', pos := pos', act := .start } : MemOp)] := by apply Array.ext'; simp
    rw [e, Deaf_push, Deaf_push]
    simp only [deafStep]
    by_cases hgn : g = a.n
    · subst hgn
      rw [Deaf_absent fun i op hi e => by have := h.ct.gs i op hi; omega]
      simp [Abs.fork, put]
    · have : g < a.n := by simp only [Abs.fork] at hg; omega
      rw [h.df g this]
      simp [Abs.fork, put, hgn]
  · rcases getElem?_append_cases hi with ⟨_, hi'⟩ | ⟨_, hm⟩
    · exact h.low i op x ad hi' hx' hl
    · rw [(hx op hm).1] at hx'; cases hx'
  · obtain ⟨op, ho, hact⟩ := Option.map_eq_some_iff.1 hi
    rcases getElem?_append_cases ho with ⟨_, hi'⟩ | ⟨_, hm⟩
    · exact h.nr ad i (by rw [act?_of hi', hact])
    · exact absurd hact ((hx op hm).2 _)
  · by_cases hin : i = a.n
    · subst hin; simp [Abs.fork, put] at hjk
    · have hjk : j ∈ a.kn i := by simpa [Abs.fork, put, hin] using hjk
      obtain ⟨x1, x2, x3, x4⟩ := h.kn i j (by simp only [Abs.fork] at hi; omega) hjk
      exact ⟨x1, by simp only [Abs.fork]; omega, hs _ x2 x3, fun q hq hc => (let ⟨y1, y2⟩ := old hq hc; (x4 q y1 y2).app _)⟩
  · obtain ⟨pc, y1, y2, y3⟩ := h.kc c hc
    have hlt := lt_of_act? y1
    refine ⟨pc, by rw [act?_old hlt]; exact y1, (heard_old hlt).2 y2, fun j hj' => ?_⟩
    obtain ⟨x1, x2, x3, x4⟩ := y3 j hj'
    exact ⟨x1, by simp only [Abs.fork]; omega, hs _ x2 x3, fun q hq hc => (let ⟨y1, y2⟩ := old hq hc; (x4 q y1 y2).app _)⟩
  · by_cases hjn : j = a.n
    · subst hjn; simp [Abs.fork, put] at hr
    · have hr : a.rel j = true := by simpa [Abs.fork, put, hjn] using hr
      obtain ⟨j0, r, hr'⟩ := h.rel j (by simp only [Abs.fork] at hj; omega) hr
      exact ⟨j0, r, hr'.app fun q hq _ => hnew q hq⟩

/-- ALL IS HANDED OVER. -/
theorem Tr.handed (h : Tr Ts a B t) (hn : 0 < a.n) (hk : ∀ j, j < a.n → j ≠ 0 → j ∈ a.kn 0) : t.HandedOver := by
  intro i g hg hne hc
  obtain ⟨op, ho, hgo⟩ := Option.map_eq_some_iff.1 hg
  have hlt : g < a.n := by have := h.ct.gs i op ho; omega
  obtain ⟨_, _, _, hkn⟩ := h.kn 0 g hn (hk g hlt hne)
  obtain ⟨q, y, hq, hy, hb⟩ := hkn i hg hc
  refine ⟨q, by simp [Trace.g?, hq, hy], ?_⟩
  rcases hb with rfl | hb
  · rw [ho] at hq; cases hq; exact absurd (hgo.symm.trans hy) hne
  · exact hb

end
end Go.Proofs.Ytplndihadjfliaa.Mix
