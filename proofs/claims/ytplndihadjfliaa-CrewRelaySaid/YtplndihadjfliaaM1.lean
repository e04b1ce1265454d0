/-
  A NET OF GOROUTINES: a goroutine at a channel that is closed, at a close.
-/
import Derived.Test.YtplndihadjfliaaM0
set_option linter.unusedSimpArgs false
set_option linter.unusedVariables false
namespace Go.Proofs.Ytplndihadjfliaa.Net
open Go Go.Conc Go.ConcN

section
variable {P : Program} {z : Nat → Value} {Post : List Nat → List Nat → Goroutine → World → Prop} {K : Abs → Prop} {rank : Abs → Nat} {a : Abs} {f : Nat → Option Nat} {T : List Nat} {Ts : Nat → List Nat} {gs : Array Goroutine} {w : World} {t : Trace}

theorem Net.atEof (L : Law K rank) (N : Net P z Post K a f T Ts gs w t) {i n c d : Nat} {al : List Do} {sl : Option (Nat × Nat)} {g : Goroutine} (hi : i < a.n) (hg : gs[i]? = some g) (hf : f i = some n) (hsi : a.sc i = .pr (.eof c) :: al)
    (hat : ∀ w₁, RR a.ch Ts i (w.at d) w₁ → AtP P z (i == 0) (RR a.ch Ts i) (EE T Ts i) (NN P z Post T a.ch Ts i al) g w₁ (.eof c)) :
    ∃ m' ops μ', runT P (crowd gs (w.at d) sl) i = (.next m', ops) ∧ Lt2 μ' (mu rank a f) ∧ Inv P z Post K rank μ' m' (t ++ ops) := by
  obtain ⟨hrun, es, hst, hes, hnext⟩ := hat _ (RR.refl _ _)
  have hc := L.eofIn a i c al N.k hi hsi
  obtain ⟨s, r, tm, hcb⟩ := N.chan c hc
  have hcb' : (w.at d).heap[c]? = some (.chan 0 #[] (a.shut c) s r tm) := hcb
  have hne : a.sc i ≠ [] := by rw [hsi]; simp
  have htr := N.evs (fn := g.frame.fn) (pos := g.frame.place) hi (.inr hne) hes
  have hpos := L.pos a N.k
  have hlt : i < gs.size := (Array.getElem?_eq_some_iff.1 hg).1
  have hp := N.noPartner (i := i) (r := c) (send := true) fun k x hki hx => by
    have hk : k < a.n := by rw [← N.size]; exact (Array.getElem?_eq_some_iff.1 hx).1
    rcases (N.offers L hx c).1 with h | ⟨hfk, u, g₁, z₁, ds, hsk, _⟩
    · exact h
    · exact absurd hsi (L.noEof a k i c u ds al N.k hk hi hsk)
  cases hsh : a.shut c with
  | false =>
    rw [hsh] at hcb'
    have hstep := crowd_waits (sl := sl) hg hst fun cc hcc => by
      simp only [List.mem_toArray, List.mem_cons, List.not_mem_nil, or_false] at hcc
      subst hcc
      exact ways_recv_none hcb' hp
    obtain ⟨f', hl, hN⟩ := N.parks (d := d) (g' := parked (core g) #[rcase c (z c)] (.recv true)) L hi hf hsi ⟨g, rfl, hat⟩ (fun c' h => by cases h; exact hsh) (fun c' u j v' bs h => by cases h) (fun c' u j v' bs h => by cases h) htr
    exact ⟨_, _, _, hstep, hl, .mk sl hN⟩
  | true =>
    rw [hsh] at hcb'
    obtain ⟨hK, hrk⟩ := L.eof a i c al N.k hi hsi hsh
    have hstep := crowd_recv_closed (sl := sl) hg hst hcb' hp
    obtain ⟨n', hni⟩ := sit_of_NN (hnext _ (RR.refl _ _))
    have hsc : ∀ k, k ≠ i → (a.seen i c al).sc k = a.sc k := fun k h1 => by simp [Abs.seen, put, h1]
    have hsci : (a.seen i c al).sc i = al := by simp [Abs.seen, put]
    have hN : Net P z Post K (a.seen i c al) (put f i (some n')) T Ts (gs.setIfInBounds i (Go.Conc.served (core g) (.tuple #[z c, .bool false]))) (w.at d)
        ((t ++ MemOp.ofEvents i g.frame.fn g.frame.place es) ++ #[{ g := i, fn := (core g).frame.fn, pos := (core g).frame.place, act := .recvClosed c }]) := by
      refine ⟨hK, (by rw [Array.size_setIfInBounds]; exact N.size), fun k hk => ?_, N.chan, N.sub, N.apart, fun k c' ds hk hfk hsk => ?_, fun k l c' u u' ds es hk hl hfk hfl hsk hsl => ?_, htr.seen hpos hne hi hsh⟩
      · by_cases hki : k = i
        · subst hki
          exact ⟨_, by simp [hlt]; rfl, by rw [hsci]; simp only [put, if_true]; exact hni⟩
        · obtain ⟨x, hx, hsx⟩ := N.sit k hk
          refine ⟨x, by rw [Array.getElem?_setIfInBounds_ne (fun e => hki e.symm)]; exact hx, ?_⟩
          rw [hsc k hki]
          simp only [put, hki, if_false]
          exact hsx.rely (RR.at _ _ _)
      · have h1 : k ≠ i := by rintro rfl; simp [put] at hfk
        simp only [put, h1, if_false] at hfk
        rw [hsc k h1] at hsk
        exact N.opn k c' ds hk hfk hsk
      · have h1 : k ≠ i := by rintro rfl; simp [put] at hfk
        have h3 : l ≠ i := by rintro rfl; simp [put] at hfl
        simp only [put, h1, h3, if_false] at hfk hfl
        rw [hsc k h1] at hsk
        rw [hsc l h3] at hsl
        exact N.noMeet k l c' u u' ds es hk hl hfk hfl hsk hsl
    refine ⟨_, _, mu rank (a.seen i c al) (put f i (some n')), hstep, lt_rank hrk, ?_⟩
    rw [← Array.append_assoc]
    exact .mk sl hN

/-- Whoever has been let try again stands where it stood. -/
theorem atEof_again {main : Bool} {R : World → World → Prop} {Ev : Event → Prop} {Next : Goroutine → World → Prop} {g : Goroutine} {c : Nat} (h : AtP P z main R Ev Next g w (.eof c)) :
    AtP P z main R Ev Next { parked (core g) #[rcase c (z c)] (.recv true) with status := .running } w (.eof c) := by
  obtain ⟨_, es, h1, h2, h3⟩ := h
  have e : stepG P main { parked (core g) #[rcase c (z c)] (.recv true) with status := .running } w = stepG P main g w := stepG_same rfl rfl rfl w
  exact ⟨rfl, es, by rw [e]; exact h1, h2, h3⟩

theorem Net.atCls (L : Law K rank) (N : Net P z Post K a f T Ts gs w t) {i n c d : Nat} {al : List Do} {sl : Option (Nat × Nat)} {g : Goroutine} (hi : i < a.n) (hg : gs[i]? = some g) (hf : f i = some n) (hsi : a.sc i = .pr (.cls c) :: al)
    (hat : AtP P z (i == 0) (RR a.ch Ts i) (EE T Ts i) (NN P z Post T a.ch Ts i al) g (w.at d) (.cls c)) :
    ∃ m' ops μ', runT P (crowd gs (w.at d) sl) i = (.next m', ops) ∧ Lt2 μ' (mu rank a f) ∧ Inv P z Post K rank μ' m' (t ++ ops) := by
  obtain ⟨hrun, hwake, hcl⟩ := hat
  obtain ⟨i0, rfl, hc, ho, hnr, hns, hK, hrk⟩ := L.cls a i c al N.k hi hsi
  obtain ⟨s, r, tm, hcb⟩ := N.chan c hc
  rw [ho] at hcb
  have hcb' : (w.at d).heap[c]? = some (.chan 0 #[] false s r tm) := hcb
  obtain ⟨g₂, es, hst, hg₂, hes, hnext⟩ := hcl s r tm hcb'
  have hne : a.sc i ≠ [] := by rw [hsi]; simp
  have htr := N.evs (fn := g.frame.fn) (pos := g.frame.place) hi (.inr hne) hes
  have hpos := L.pos a N.k
  have hlt : i < gs.size := (Array.getElem?_eq_some_iff.1 hg).1
  have hstep := runT_crowd_go (sl := sl) hg hst
  have hR : ∀ k, k < a.n → RR a.ch Ts k w ((w.at d).shut c s r tm) := fun k hk => (RR.at _ _ _).trans (N.rput hk hc _ _)
  obtain ⟨n', hni⟩ := sit_of_NN (hnext _ (N.rput hi hc _ _))
  have hc2 : ((w.at d).shut c s r tm).heap[c]? = some (.chan 0 #[] true s r tm) := heap_put hcb'
  have hch : ∀ c', c' ≠ c → ((w.at d).shut c s r tm).heap[c']? = w.heap[c']? := fun c' h => by
    have : c ≠ c' := fun e => h e.symm
    simp [World.shut, World.at, this]
  have hwk : ∀ x, woken P g g₂ ((w.at d).shut c s r tm) x = x.again ((w.at d).shut c s r tm) := by
    intro x; unfold woken; rcases hg₂ with h | h <;> simp [hwake, h]
  -- what becomes of the others
  have oth : ∀ k, k ≠ i → k < a.n → ∃ x fk, gs[k]? = some x ∧ Sit P z Post T a.ch Ts k (a.sc k) fk (x.again ((w.at d).shut c s r tm)) ((w.at d).shut c s r tm) ∧ (fk = none → f k = none ∧ ∀ ds, a.sc k ≠ .pr (.eof c) :: ds) := by
    intro k hki hk
    obtain ⟨x, hx, hsx⟩ := N.sit k hk
    cases hfk : f k with
    | some m =>
      have hrf : x.status = .running ∨ x.status = .finished := by
        rcases hsx.status with ⟨h, _⟩ | ⟨h, _⟩ | ⟨_, h⟩
        · exact .inl h
        · exact .inr h
        · rw [hfk] at h; cases h
      refine ⟨x, some m, hx, ?_, fun h => by cases h⟩
      rw [again_running _ hrf, ← hfk]
      exact hsx.rely (hR k hk)
    | none =>
      obtain ⟨p, ds, c', hsk, hc', ho', h⟩ := N.waits L hk hfk hsx
      by_cases hcc : c' = c
      · subst hcc
        rcases h with ⟨v, g₂', z', rfl, rfl⟩ | ⟨v, g₀, rfl, rfl⟩ | ⟨g₀, rfl, rfl⟩
        · exact absurd hsk (hns k v ds hk)
        · exact absurd hsk (hnr k v ds hk)
        · obtain ⟨y, hy, g₁, hpk, hat'⟩ := N.parkedAt hk hfk hsk
          rw [hx] at hy
          have e := Option.some.inj hy
          subst e
          refine ⟨_, some 0, hx, ?_, fun h => by cases h⟩
          rw [hsk, hpk, again_recv_closed hc2]
          exact .run (Goes.stop fun w₁ h₁ => atEof_again (hat' w₁ ((hR k hk).trans h₁)))
      · have hcb2 : ((w.at d).shut c s r tm).heap[c']? = some (.chan 0 #[] false (N.chan c' hc').choose (N.chan c' hc').choose_spec.choose (N.chan c' hc').choose_spec.choose_spec.choose) := by
          rw [hch c' hcc, ← ho']; exact (N.chan c' hc').choose_spec.choose_spec.choose_spec
        refine ⟨x, none, hx, ?_, fun _ => ⟨rfl, fun ds' h' => ?_⟩⟩
        · have : x.again ((w.at d).shut c s r tm) = x := by
            rcases h with ⟨v, g₂', z', rfl, rfl⟩ | ⟨v, g₀, rfl, rfl⟩ | ⟨g₀, rfl, rfl⟩
            · exact again_send_open hcb2
            · exact again_recv_open hcb2
            · exact again_recv_open hcb2
          rw [this, ← hfk]
          exact hsx.rely (hR k hk)
        · rw [hsk] at h'
          rcases h with ⟨v, g₂', z', rfl, rfl⟩ | ⟨v, g₀, rfl, rfl⟩ | ⟨g₀, rfl, rfl⟩
          · cases h'
          · cases h'
          · cases h'; exact hcc rfl
  have hsc : ∀ k, k ≠ i → (a.close i c).sc k = a.sc k := fun k h1 => by simp [Abs.close, put, h1]
  have hsci : (a.close i c).sc i = [] := by simp [Abs.close, put]
  classical
  let F : Nat → Option Nat := fun k => if h : k ≠ i ∧ k < a.n then (oth k h.1 h.2).choose_spec.choose else some n'
  have hF : ∀ k, k ≠ i → k < a.n → ∃ x, gs[k]? = some x ∧ Sit P z Post T a.ch Ts k (a.sc k) (F k) (x.again ((w.at d).shut c s r tm)) ((w.at d).shut c s r tm) ∧ (F k = none → f k = none ∧ ∀ ds, a.sc k ≠ .pr (.eof c) :: ds) := by
    intro k h1 h2
    have e : F k = (oth k h1 h2).choose_spec.choose := by simp only [F]; rw [dif_pos ⟨h1, h2⟩]
    exact ⟨_, by rw [e]; exact (oth k h1 h2).choose_spec.choose_spec⟩
  have hFi : F i = some n' := by simp only [F]; rw [dif_neg (fun h => h.1 rfl)]
  have hN : Net P z Post K (a.close i c) F T Ts ((gs.map (woken P g g₂ ((w.at d).shut c s r tm))).setIfInBounds i g₂) ((w.at d).shut c s r tm)
      ((t ++ MemOp.ofEvents i g.frame.fn g.frame.place es) ++ #[{ g := i, fn := g.frame.fn, pos := g.frame.place, act := .close c }]) := by
    refine ⟨hK, (by rw [Array.size_setIfInBounds, Array.size_map]; exact N.size), fun k hk => ?_, fun c' hc' => ?_, N.sub, N.apart, fun k c' ds hk hfk hsk => ?_, fun k l c' u u' ds es hk hl hfk hfl hsk hsl => ?_, htr.close i0 hpos hne hi⟩
    · by_cases hki : k = i
      · subst hki
        exact ⟨g₂, by simp [hlt], by rw [hsci, hFi]; exact hni⟩
      · obtain ⟨x, hx, hsx, _⟩ := hF k hki hk
        refine ⟨_, get_map_set gs _ i k g₂ x hx, ?_⟩
        rw [hsc k hki]
        simp only [hki, if_false, hwk]
        exact hsx
    · by_cases hcc : c' = c
      · subst hcc; exact ⟨s, r, tm, by simpa [Abs.close, put] using hc2⟩
      · obtain ⟨s1, r1, tm1, h1⟩ := N.chan c' hc'
        exact ⟨s1, r1, tm1, by rw [hch c' hcc, h1]; simp [Abs.close, put, hcc]⟩
    · have h1 : k ≠ i := by rintro rfl; rw [hFi] at hfk; cases hfk
      obtain ⟨x, hx, hsx, hno⟩ := hF k h1 hk
      obtain ⟨h2, h3⟩ := hno hfk
      rw [hsc k h1] at hsk
      have hcc : c' ≠ c := by rintro rfl; exact h3 ds hsk
      have := N.opn k c' ds hk h2 hsk
      simpa [Abs.close, put, hcc] using this
    · have h1 : k ≠ i := by rintro rfl; rw [hFi] at hfk; cases hfk
      have h3 : l ≠ i := by rintro rfl; rw [hFi] at hfl; cases hfl
      obtain ⟨x, hx, hsx, hno⟩ := hF k h1 hk
      obtain ⟨y, hy, hsy, hno'⟩ := hF l h3 hl
      rw [hsc k h1] at hsk
      rw [hsc l h3] at hsl
      exact N.noMeet k l c' u u' ds es hk hl (hno hfk).1 (hno' hfl).1 hsk hsl
  refine ⟨_, _, mu rank (a.close i c) F, hstep, lt_rank hrk, ?_⟩
  rw [ofEvents_push, Array.push_eq_append, ← Array.append_assoc]
  exact .mk sl hN

end
end Go.Proofs.Ytplndihadjfliaa.Net
/-
  A NET OF GOROUTINES: the go statement, the return, THE THEOREM.
-/
set_option linter.unusedSimpArgs false
set_option linter.unusedVariables false
namespace Go.Proofs.Ytplndihadjfliaa.Net
open Go Go.Conc Go.ConcN

section
variable {P : Program} {z : Nat → Value} {Post : List Nat → List Nat → Goroutine → World → Prop} {K : Abs → Prop} {rank : Abs → Nat} {a : Abs} {f : Nat → Option Nat} {T : List Nat} {Ts : Nat → List Nat} {gs : Array Goroutine} {w : World} {t : Trace}

/-- A worker's situation hangs on what it reads alone. -/
theorem Sit.other {T ch T2 ch2 : List Nat} {Ts Ts2 : Nat → List Nat} {k : Nat} {al : List Do} {o : Option Nat} {g : Goroutine} (k0 : k ≠ 0) (e : Ts2 k = Ts k) (h : Sit P z Post T ch Ts k al o g w) : Sit P z Post T2 ch2 Ts2 k al o g w := by
  have e1 : RR ch2 Ts2 k = RR ch Ts k := by simp [RR, k0, e]
  have e2 : DD T2 ch2 Ts2 k = DD T ch Ts k := by simp [DD, k0, e]
  have e3 : EE T2 Ts2 k = EE T Ts k := by simp [EE, k0, e]
  have e4 : ∀ al, NN P z Post T2 ch2 Ts2 k al = NN P z Post T ch Ts k al := by intro al; funext g w; simp [NN, k0, e]
  cases h with
  | ret h _ => exact absurd h k0
  | fork h _ => exact absurd h k0
  | quit h h' => exact .quit h h'
  | run h => refine .run ?_; rw [e1, e2, e3, e4]; exact h
  | park h =>
    rename_i p al
    refine .park ?_
    cases p with
    | snd c v => simpa [Park, e1, e4] using h
    | rcv c v => simpa [Park, e1, e4] using h
    | eof c => simpa [Park, e1, e3, e4] using h
    | cls c => exact h

theorem Net.atFork (L : Law K rank) (N : Net P z Post K a f T Ts gs w t) {d : Nat} {T' cs : List Nat} {kid : List Pr} {al : List Do} {sl : Option (Nat × Nat)} {g : Goroutine} (hg : gs[0]? = some g) (hsi : a.sc 0 = .fork T' cs kid :: al)
    (hat : AtFork P z T a.ch T' cs kid (FollowM P z Post al (T' ++ T) (cs ++ a.ch)) g (w.at d)) :
    ∃ m' ops μ', runT P (crowd gs (w.at d) sl) 0 = (.next m', ops) ∧ Lt2 μ' (mu rank a f) ∧ Inv P z Post K rank μ' m' (t ++ ops) := by
  obtain ⟨hrun, g', child, w', es, hst, hes, hT, hch, hcs, hT', hcr, hkid, hnext⟩ := hat
  have hpos := L.pos a N.k
  obtain ⟨_, hkn, hsh, hK, hrk⟩ := L.fork a 0 T' cs kid al N.k hpos hsi
  have hlt : 0 < gs.size := by rw [N.size]; exact hpos
  have hstep := runT_crowd_spawn (sl := sl) hg (by simpa using hst)
  have hne : a.sc 0 ≠ [] := by rw [hsi]; simp
  have htr := N.evs (fn := g.frame.fn) (pos := g.frame.place) (es := es) hpos (.inl rfl) (by simpa [EE] using hes)
  have htf := htr.fork (T' := T') (cs := cs) (kid := kid) (al := al) hpos hne hsh (fn := g.frame.fn) (fn' := child.frame.fn) (pos := g.frame.place) (pos' := g.frame.place)
  obtain ⟨n0, h0⟩ := sit_of_NN (P := P) (z := z) (Post := Post) (T := T' ++ T) (ch := cs ++ a.ch) (Ts := put Ts a.n T') (i := 0) (al := al) (g := g') (w := w') (by simpa [NN] using hnext)
  have hn0 : a.n ≠ 0 := by omega
  obtain ⟨nk, hk'⟩ := sit_of_NN (P := P) (z := z) (Post := Post) (T := T' ++ T) (ch := cs ++ a.ch) (Ts := put Ts a.n T') (i := a.n) (al := kid.map .pr) (g := child) (w := w') (by simp only [NN, hn0, if_false]; exact ⟨kid, rfl, by simpa [put] using hkid⟩)
  have hsc : ∀ k, k ≠ 0 → k ≠ a.n → (a.fork cs kid al).sc k = a.sc k := fun k h1 h2 => by simp [Abs.fork, put, h1, h2]
  have hN : Net P z Post K (a.fork cs kid al) (put (put f 0 (some n0)) a.n (some nk)) (T' ++ T) (put Ts a.n T') ((gs.setIfInBounds 0 g').push child) w'
      ((t ++ MemOp.ofEvents 0 g.frame.fn g.frame.place es) ++ #[{ g := 0, fn := g.frame.fn, pos := g.frame.place, act := .go a.n }, { g := a.n, fn := child.frame.fn, pos := g.frame.place, act := .start }]) := by
    refine ⟨hK, ?_, fun k hk => ?_, fun c hc => ?_, fun k k0 hk b hb => ?_, fun c hc => ?_, fun k c' ds hk hfk hsk => ?_, fun k l c' u u' ds es hk hl hfk hfl hsk hsl => ?_, htf⟩
    · rw [Array.size_push, Array.size_setIfInBounds, N.size]; rfl
    · have hsz : (gs.setIfInBounds 0 g').size = a.n := by rw [Array.size_setIfInBounds]; exact N.size
      by_cases hkn' : k = a.n
      · subst hkn'
        refine ⟨child, by rw [Array.getElem?_push, if_pos hsz.symm], ?_⟩
        have e : (a.fork cs kid al).sc a.n = kid.map .pr := by simp [Abs.fork, put]
        rw [e]
        simp only [put, if_true]
        exact hk'
      · by_cases hk0 : k = 0
        · subst hk0
          refine ⟨g', by rw [Array.getElem?_push, if_neg (by omega)]; simp [hlt], ?_⟩
          have e : (a.fork cs kid al).sc 0 = al := by simp [Abs.fork, put, hkn']
          rw [e]
          simp only [put, hkn', if_false, if_true]
          exact h0
        · have hk2 : k < a.n := by simp only [Abs.fork] at hk; omega
          obtain ⟨x, hx, hsx⟩ := N.sit k hk2
          refine ⟨x, by rw [Array.getElem?_push, if_neg (by omega), Array.getElem?_setIfInBounds_ne (fun e => hk0 e.symm)]; exact hx, ?_⟩
          rw [hsc k hk0 hkn']
          simp only [put, hkn', hk0, if_false]
          have hr : RR a.ch Ts k w w' := by
            have : RW (Ts k) w w' := fun b hb => hT b (N.sub k hk0 hk2 b hb)
            simpa [RR, hk0] using this
          exact (hsx.rely hr).other hk0 (by simp [put, hkn'])
    · have hc : c ∈ cs ∨ c ∈ a.ch := by simpa [Abs.fork] using hc
      rcases hc with hc | hc
      · obtain ⟨_, _, s, r, tm, h⟩ := hcs c hc
        exact ⟨s, r, tm, by rw [h]; simp [Abs.fork, hsh c hc]⟩
      · obtain ⟨s, r, tm, h⟩ := N.chan c hc
        exact ⟨s, r, tm, by rw [hch c hc]; exact h⟩
    · by_cases hkn' : k = a.n
      · subst hkn'
        have : b ∈ T' := by simpa [put] using hb
        simp [this]
      · have : b ∈ Ts k := by simpa [put, hkn'] using hb
        have := N.sub k k0 (by simp only [Abs.fork] at hk; omega) b this
        simp [this]
    · have hc : c ∈ cs ∨ c ∈ a.ch := by simpa [Abs.fork] using hc
      rcases hc with hc | hc
      · exact (hcs c hc).1
      · intro hm
        rcases List.mem_append.1 hm with hm | hm
        · exact hT' c hm (by simp [hc])
        · exact N.apart c hc hm
    · have h2 : k ≠ a.n := by rintro rfl; simp [put] at hfk
      have h1 : k ≠ 0 := by rintro rfl; simp [put, h2] at hfk
      simp only [put, h1, h2, if_false] at hfk
      rw [hsc k h1 h2] at hsk
      exact N.opn k c' ds (by simp only [Abs.fork] at hk; omega) hfk hsk
    · have h2 : k ≠ a.n := by rintro rfl; simp [put] at hfk
      have h1 : k ≠ 0 := by rintro rfl; simp [put, h2] at hfk
      have h4 : l ≠ a.n := by rintro rfl; simp [put] at hfl
      have h3 : l ≠ 0 := by rintro rfl; simp [put, h4] at hfl
      simp only [put, h1, h2, h3, h4, if_false] at hfk hfl
      rw [hsc k h1 h2] at hsk
      rw [hsc l h3 h4] at hsl
      exact N.noMeet k l c' u u' ds es (by simp only [Abs.fork] at hk; omega) (by simp only [Abs.fork] at hl; omega) hfk hfl hsk hsl
  refine ⟨_, _, mu rank (a.fork cs kid al) (put (put f 0 (some n0)) a.n (some nk)), hstep, lt_rank hrk, ?_⟩
  have e : t ++ ((MemOp.ofEvents 0 g.frame.fn g.frame.place es).push { g := 0, fn := g.frame.fn, pos := g.frame.place, act := .go gs.size } |>.push { g := gs.size, fn := child.frame.fn, pos := g.frame.place, act := .start }) =
      (t ++ MemOp.ofEvents 0 g.frame.fn g.frame.place es) ++ #[{ g := 0, fn := g.frame.fn, pos := g.frame.place, act := .go a.n }, { g := a.n, fn := child.frame.fn, pos := g.frame.place, act := .start }] := by
    rw [N.size]
    apply Array.ext'
    simp
  rw [e]
  exact .mk sl hN

theorem runT_crowd_ended {i : Nat} {g : Goroutine} {o : Outcome} {w w' : World} {sl : Option (Nat × Nat)} {es : Array Event} (hi : gs[i]? = some g) (h : stepG P (i == 0) g w = .ended o w' es) :
    runT P (crowd gs w sl) i = (.ended o w', MemOp.ofEvents i g.frame.fn g.frame.place es) := by
  obtain ⟨hlt, rfl⟩ := Array.getElem?_eq_some_iff.1 hi
  have hsw := swapAt_of_lt hlt { (default : Goroutine) with status := .finished }
  show runT P { world := w, gs := gs, rest := { timers := #[], alone := none, slice := sl } } i = _
  unfold runT
  simp only [hsw, h, GStep.es]

/-- WHERE GOROUTINE 0 STANDS AT ITS RETURN, all others having ended or leaving. -/
theorem Net.good (L : Law K rank) (N : Net P z Post K a f T Ts gs w t) {Q : Value → World → Prop} {d : Nat} {sl sl' : Option (Nat × Nat)} {g : Goroutine} {v : Value} {es : Array Event} (hg : gs[0]? = some g) (hsi : a.sc 0 = [])
    (hst : stepG P true g (w.at d) = .ended (.done v) (w.at d) es) (hes : ∀ e ∈ es, EvM T e) (hpost : Q v (w.at d)) :
    ∃ o w' ops, runT P (crowd gs (w.at d) sl') 0 = (.ended o w', ops) ∧ Go.Conc.Good P Q (crowd gs w sl) o w' (t ++ ops) := by
  have hpos := L.pos a N.k
  have hlast := L.last a N.k hsi
  have htr := N.evs (fn := g.frame.fn) (pos := g.frame.place) (es := es) hpos (.inl rfl) (by simpa [EE] using hes)
  refine ⟨_, _, _, runT_crowd_ended hg (by simpa using hst), v, rfl, hpost, htr.ct.nr, htr.handed hpos fun j hj j0 => (hlast j hj j0).2, ⟨?_, rfl⟩, ?_⟩
  · intro x hx
    obtain ⟨k, hk⟩ := List.getElem?_of_mem hx
    rw [List.getElem?_drop] at hk
    have hk' : gs[1 + k]? = some x := by rw [← hk]; simp [crowd]
    have hlt : 1 + k < a.n := by rw [← N.size]; exact (Array.getElem?_eq_some_iff.1 hk').1
    obtain ⟨y, hy, hs⟩ := N.sit (1 + k) hlt
    rw [hk'] at hy
    cases hy
    rw [(hlast (1 + k) hlt (by omega)).1] at hs
    generalize f (1 + k) = o at hs
    cases hs with
    | ret h _ => omega
    | quit _ h => exact ⟨_, h.leaves⟩
  · intro i x hi i0
    have hi' : gs[i]? = some x := hi
    have hlt : i < a.n := by rw [← N.size]; exact (Array.getElem?_eq_some_iff.1 hi').1
    obtain ⟨y, hy, hs⟩ := N.sit i hlt
    rw [hi'] at hy
    cases hy
    rw [(hlast i hlt i0).1] at hs
    generalize f i = o at hs
    cases hs with
    | ret h _ => exact absurd h i0
    | quit _ h => exact ⟨_, by rw [htr.wl.deaf]; exact h.hears _ _⟩

/-- THE THEOREM: a net whose abstract law holds runs, on every tape, till goroutine 0 stands at the end of its script. -/
theorem net_to (L : Law K rank) : ∀ (μ : Nat × Nat) {a : Abs} {f : Nat → Option Nat} {T : List Nat} {Ts : Nat → List Nat} {gs : Array Goroutine} {w : World} {t : Trace} (N : Net P z Post K a f T Ts gs w t) (sl : Option (Nat × Nat)), mu rank a f = μ →
    ∃ n a' f' T' Ts' gs' w' sl' t' g, runNT P n (crowd gs w sl) t = (.next (crowd gs' w' sl'), t') ∧ Net P z Post K a' f' T' Ts' gs' w' t' ∧ a'.sc 0 = [] ∧ gs'[0]? = some g ∧ ∀ w₁, RC a'.ch w' w₁ → AtEnd Post T' a'.ch g w₁ := by
  intro μ
  induction μ using (Prod.lex Nat.lt_wfRel Nat.lt_wfRel).wf.induction with
  | _ μ ih =>
  intro a f T Ts gs w t N sl hμ
  by_cases hend : a.sc 0 = [] ∧ ∃ g, gs[0]? = some g ∧ ∀ w₁, RC a.ch w w₁ → AtEnd Post T a.ch g w₁
  · obtain ⟨h1, g, h2, h3⟩ := hend
    exact ⟨0, a, f, T, Ts, gs, w, sl, t, g, rfl, N, h1, h2, h3⟩
  suffices h : ∃ m' ops μ', stepT P (crowd gs w sl) = (.next m', ops) ∧ Lt2 μ' (mu rank a f) ∧ Inv P z Post K rank μ' m' (t ++ ops) by
    obtain ⟨m', ops, μ', h1, h2, h3⟩ := h
    cases h3 with
    | @mk a1 f1 T1 Ts1 gs1 w1 _ sl1 N1 =>
    obtain ⟨n, x⟩ := ih _ (hμ ▸ h2) N1 sl1 rfl
    refine ⟨n + 1, ?_⟩
    rw [runNT_succ_next h1]
    exact x
  obtain ⟨i, g, d, sl', hg, hrun, hst⟩ := crowd_pick (P := P) (w := w) (sl := sl) N.awake (N.someone L)
  have hi : i < a.n := by rw [← N.size]; exact (Array.getElem?_eq_some_iff.1 hg).1
  rw [hst]
  obtain ⟨g0, hg0, hs⟩ := N.sit i hi
  rw [hg] at hg0
  cases hg0
  have hrefl : w.heap = (w.at d).heap := rfl
  -- an own step that is goroutine 0's
  have own0 : ∀ {n n' : Nat} {g' : Goroutine} {w' : World} {es : Array Event}, i = 0 → f i = some n → n' < n → stepG P true g (w.at d) = .go g' w' es → DM T a.ch (w.at d) w' es → Sit P z Post T a.ch Ts i (a.sc i) (some n') g' w' →
      ∃ m' ops μ', runT P (crowd gs (w.at d) sl') i = (.next m', ops) ∧ Lt2 μ' (mu rank a f) ∧ Inv P z Post K rank μ' m' (t ++ ops) := by
    intro n n' g' w' es h0 hf hn hgo ⟨hT, hch, hes⟩ hsit
    subst h0
    obtain ⟨gs', f', h1, h2, h3, _⟩ := N.own L hi hg hf hn (sl := sl') (d := d) hgo (fun j hj hjn => by
      have : RW (Ts j) (w.at d) w' := fun b hb => hT b (N.sub j hj hjn b hb)
      simpa [RR, hj] using this) (fun c hc => hch c hc) hsit (N.evs hi (.inl rfl) (by simpa [EE] using hes))
    exact ⟨_, _, _, h1, h2, .mk sl' h3⟩
  generalize hsc : a.sc i = sci at hs
  generalize hfi : f i = fi at hs
  cases hs with
  | ret h0 h =>
    subst h0
    rcases h.cases with hstop | ⟨n', rfl, hstep⟩
    · exact absurd ⟨hsc, g, hg, hstop⟩ hend
    · obtain ⟨g', w', es, hgo, hd, hg'⟩ := hstep _ (RC.at _ _ d)
      have := own0 rfl hfi (Nat.lt_succ_self _) hgo hd (by rw [hsc]; exact .ret rfl hg')
      obtain ⟨m', ops, μ', x1, x2, x3⟩ := this
      exact ⟨m', ops, μ', x1, x2, x3⟩
  | fork h0 h =>
    subst h0
    rcases h.cases with hstop | ⟨n', rfl, hstep⟩
    · obtain ⟨m', ops, μ', x1, x2, x3⟩ := N.atFork L (sl := sl') hg hsc (hstop _ (RC.at _ _ d))
      exact ⟨m', ops, μ', x1, x2, x3⟩
    · obtain ⟨g', w', es, hgo, hd, hg'⟩ := hstep _ (RC.at _ _ d)
      obtain ⟨m', ops, μ', x1, x2, x3⟩ := own0 rfl hfi (Nat.lt_succ_self _) hgo hd (by rw [hsc]; exact .fork rfl hg')
      exact ⟨m', ops, μ', x1, x2, x3⟩
  | quit h0 h =>
    rename_i n
    cases n with
    | zero => rw [show g.status = .finished from h] at hrun; cases hrun
    | succ n =>
      rcases h with h | ⟨_, g', hgo, hq⟩
      · rw [h] at hrun; cases hrun
      · have hb : (i == 0) = false := by simpa using h0
        obtain ⟨gs', f', h1, h2, h3, _⟩ := N.own L hi hg hfi (Nat.lt_succ_self n) (sl := sl') (d := d) (by rw [hb]; exact hgo _) (fun j _ _ => RR.refl _ _) (fun c _ => rfl) (by rw [hsc]; exact .quit h0 hq) (by
          have : MemOp.ofEvents i g.frame.fn g.frame.place #[] = #[] := by rw [ofEvents_eq]; simp
          rw [this, Array.append_empty]; exact N.tr)
        exact ⟨_, _, _, h1, h2, .mk sl' h3⟩
  | run h =>
    rename_i p al n
    rcases h.cases with hstop | ⟨n', rfl, hstep⟩
    · have hat := hstop _ (RR.at _ _ d)
      have : ∃ m' ops μ', runT P (crowd gs (w.at d) sl') i = (.next m', ops) ∧ Lt2 μ' (mu rank a f) ∧ Inv P z Post K rank μ' m' (t ++ ops) := by
        cases p with
        | snd c v => exact N.atSnd L hi hg hfi hsc hat
        | rcv c v => exact N.atRcv L hi hg hfi hsc hat
        | eof c => exact N.atEof L hi hg hfi hsc fun w₁ h₁ => hstop _ ((RR.at _ _ d).trans h₁)
        | cls c => exact N.atCls L hi hg hfi hsc hat
      obtain ⟨m', ops, μ', x1, x2, x3⟩ := this
      exact ⟨m', ops, μ', x1, x2, x3⟩
    · obtain ⟨g', w', es, hgo, hd, hg'⟩ := hstep _ (RR.at _ _ d)
      by_cases h0 : i = 0
      · obtain ⟨m', ops, μ', x1, x2, x3⟩ := own0 h0 hfi (Nat.lt_succ_self _) (by subst h0; simpa using hgo) (by simpa [DD, h0] using hd) (by rw [hsc]; exact .run hg')
        exact ⟨m', ops, μ', x1, x2, x3⟩
      · have hd' : DW (Ts i) (w.at d) w' es := by simpa [DD, h0] using hd
        obtain ⟨rfl, hes⟩ := hd'
        obtain ⟨gs', f', h1, h2, h3, _⟩ := N.own L hi hg hfi (Nat.lt_succ_self n') (sl := sl') (d := d) hgo (fun j _ _ => RR.refl _ _) (fun c _ => rfl) (by rw [hsc]; exact .run hg') (N.evs hi (.inr (by rw [hsc]; simp)) (by simpa [EE, h0] using hes))
        exact ⟨_, _, _, h1, h2, .mk sl' h3⟩
  | park h =>
    have := (Sit.park (i := i) (w := w) h).status
    rcases this with ⟨_, n, h⟩ | ⟨h, _⟩ | ⟨h, _⟩
    · cases h
    · rw [h] at hrun; cases hrun
    · rw [h] at hrun; cases hrun

end
end Go.Proofs.Ytplndihadjfliaa.Net
/-
  A ROW OF GOROUTINES, each of which hands on what it takes: the abstract net (definitions).
-/
set_option linter.unusedSimpArgs false
set_option linter.unusedVariables false
namespace Go.Proofs.Ytplndihadjfliaa.Net
open Go Go.Conc Go.ConcN

/-- The script of the row's first: it sends all, and closes. -/
def src (c : Nat) (e : List Value) : List Pr := e.map (.snd c) ++ [.cls c]
/-- The script of the others: take, hand on, .., find it closed, close. -/
def hnd (ci co : Nat) (F : Value → Value) : List Value → List Pr
  | [] => [.eof ci, .cls co]
  | x :: xs => .rcv ci x :: .snd co (F x) :: hnd ci co F xs
/-- Goroutine 0: it starts the rest of the row, takes all, and finds it closed. -/
def mains (ci : Nat) (xs : List Value) : List (Nat × (Value → Value)) → List Do
  | [] => xs.map (fun x => .pr (.rcv ci x)) ++ [.pr (.eof ci)]
  | (co, F) :: l => .fork [] [co] (hnd ci co F xs) :: mains co (xs.map F) l

/-- Where a goroutine of the row stands: it takes or hands on; it closes; it is done. -/
inductive St where
  | live (h : Option Value)
  | clos
  | done

def St.emit (F : Value → Value) (xs : List Value) : St → List Value
  | live none => xs.map F
  | live (some v) => v :: xs.map F
  | _ => []
def St.scr (ci co : Nat) (F : Value → Value) (xs : List Value) : St → List Pr
  | live none => hnd ci co F xs
  | live (some v) => .snd co v :: hnd ci co F xs
  | clos => [.cls co]
  | done => []
def St.scr0 (c : Nat) (e : List Value) : St → List Pr
  | done => []
  | _ => src c e

/-- The row's m goroutines stand at b, b + 1, ..: channel c p is goroutine b + p's to close; e p: what it has still to hand on. -/
structure Row (b m : Nat) (c : Nat → Nat) (F : Nat → Value → Value) (e : Nat → List Value) (st : Nat → St) (a : Abs) : Prop where
  nn : a.n = b + m
  b0 : 0 < b
  inj : ∀ p q, p < m → q < m → c p = c q → p = q
  chs : ∀ p, p < m → c p ∈ a.ch
  old : ∀ j, j < b → j ≠ 0 → a.sc j = [] ∧ j ∈ a.kn 0
  s0 : 0 < m → a.sc b = ((st 0).scr0 (c 0) (e 0)).map .pr
  sc : ∀ p, p + 1 < m → a.sc (b + p + 1) = ((st (p + 1)).scr (c p) (c (p + 1)) (F (p + 1)) (e p)).map .pr
  em : ∀ p, p + 1 < m → e (p + 1) = (st (p + 1)).emit (F (p + 1)) (e p)
  dn : ∀ p, p + 1 < m → (st (p + 1) = .clos ∨ st (p + 1) = .done) → st p = .done
  e0 : 0 < m → st 0 = .done → e 0 = []
  z0 : 0 < m → st 0 = .done ∨ st 0 = .live none
  sh : ∀ p, p < m → (a.shut (c p) = true ↔ st p = .done)
  kn : ∀ p, p < m → (st p = .clos ∨ st p = .done) → ∀ q, q < p → b + q ∈ a.kn (b + p)
  kc : ∀ p, p < m → st p = .done → ∀ q, q ≤ p → b + q ∈ a.kc (c p)

/-- Channels that are new, each once. -/
def Fresh (a : Abs) (l : List (Nat × (Value → Value))) : Prop := (l.map (·.1)).Nodup ∧ ∀ x ∈ l, x.1 ∉ a.ch ∧ a.shut x.1 = false

/-- THE INVARIANT. -/
inductive KRow (b : Nat) : Abs → Prop
  | start {a : Abs} (T : List Nat) (c0 : Nat) (vs : List Value) (l : List (Nat × (Value → Value))) : a.n = b → 0 < b → (∀ j, j < b → j ≠ 0 → a.sc j = [] ∧ j ∈ a.kn 0) →
      Fresh a ((c0, id) :: l) → a.sc 0 = .fork T [c0] (src c0 vs) :: mains c0 vs l → KRow b a
  | go {a : Abs} {m : Nat} {c : Nat → Nat} {F : Nat → Value → Value} {e : Nat → List Value} {st : Nat → St} (l : List (Nat × (Value → Value))) : Row b (m + 1) c F e st a → Fresh a l → a.sc 0 = mains (c m) (e m) l → KRow b a
  | fin {a : Abs} {m : Nat} {c : Nat → Nat} {F : Nat → Value → Value} {e : Nat → List Value} {st : Nat → St} : Row b (m + 1) c F e st a → st m = .done → (∀ q, q ≤ m → b + q ∈ a.kn 0) → a.sc 0 = [] → KRow b a

def wt : Do → Nat
  | .pr _ => 1
  | .fork _ _ kid => 2 + kid.length
def wts (l : List Do) : Nat := (l.map wt).sum
def rank (a : Abs) : Nat := sumTo a.n fun i => wts (a.sc i)

theorem wts_prs (l : List Pr) : wts (l.map .pr) = l.length := by
  induction l with
  | nil => rfl
  | cons p l ih => simp only [wts, List.map_cons, List.sum_cons, wt, List.length_cons] at ih ⊢; omega
theorem wts_cons (x : Do) (l : List Do) : wts (x :: l) = wt x + wts l := by simp [wts]

/-- A change of one script. -/
theorem rank_put {a : Abs} {i : Nat} {s : List Do} (hi : i < a.n) : sumTo a.n (fun k => wts (put a.sc i s k)) + wts (a.sc i) = sumTo a.n (fun k => wts (a.sc k)) + wts s := by
  have := sumTo_upd (j := a.n) a.sc s wts hi
  simpa [upd, put] using this

theorem rank_pass {a : Abs} {i j c : Nat} {v v' : Value} {al bs : List Do} (hi : i < a.n) (hj : j < a.n) (hij : i ≠ j) (hsi : a.sc i = .pr (.snd c v) :: al) (hsj : a.sc j = .pr (.rcv c v') :: bs) : rank (a.pass i j al bs) < rank a := by
  have h1 := rank_put (a := a) (s := al) hi
  have h2 := rank_put (a := { a with sc := put a.sc i al }) (i := j) (s := bs) hj
  have e : put a.sc i al j = a.sc j := put_ne _ _ (fun e => hij e.symm)
  simp only [e] at h2
  rw [hsi, wts_cons] at h1
  rw [hsj, wts_cons] at h2
  simp only [wt] at h1 h2
  show sumTo a.n (fun k => wts (put (put a.sc i al) j bs k)) < sumTo a.n (fun k => wts (a.sc k))
  omega

theorem rank_seen {a : Abs} {i c : Nat} {al : List Do} (hi : i < a.n) (hsi : a.sc i = .pr (.eof c) :: al) : rank (a.seen i c al) < rank a := by
  have h1 := rank_put (a := a) (s := al) hi
  rw [hsi, wts_cons] at h1
  simp only [wt] at h1
  show sumTo a.n (fun k => wts (put a.sc i al k)) < sumTo a.n (fun k => wts (a.sc k))
  omega

theorem rank_close {a : Abs} {i c : Nat} {al : List Do} (hi : i < a.n) (hsi : a.sc i = .pr (.cls c) :: al) : rank (a.close i c) < rank a := by
  have h1 := rank_put (a := a) (s := []) hi
  rw [hsi, wts_cons] at h1
  simp only [wt] at h1
  have : wts [] = 0 := rfl
  show sumTo a.n (fun k => wts (put a.sc i [] k)) < sumTo a.n (fun k => wts (a.sc k))
  omega

theorem rank_fork {a : Abs} {T cs : List Nat} {kid : List Pr} {al : List Do} (hn : 0 < a.n) (hsi : a.sc 0 = .fork T cs kid :: al) : rank (a.fork cs kid al) < rank a := by
  have h1 := rank_put (a := a) (s := al) hn
  rw [hsi, wts_cons] at h1
  simp only [wt] at h1
  show sumTo (a.n + 1) (fun k => wts (put (put a.sc 0 al) a.n (kid.map .pr) k)) < sumTo a.n (fun k => wts (a.sc k))
  have e1 : sumTo a.n (fun k => wts (put (put a.sc 0 al) a.n (kid.map .pr) k)) = sumTo a.n (fun k => wts (put a.sc 0 al k)) :=
    sumTo_congr fun k hk => by rw [put_ne _ _ (show k ≠ a.n by omega)]
  rw [sumTo, e1, put_same, wts_prs]
  omega

end Go.Proofs.Ytplndihadjfliaa.Net
/-
  A ROW OF GOROUTINES: what stands at the head of each script.
-/
set_option linter.unusedSimpArgs false
set_option linter.unusedVariables false
namespace Go.Proofs.Ytplndihadjfliaa.Net
open Go Go.Conc Go.ConcN

inductive Head (c : Nat → Nat) (F : Nat → Value → Value) (e : Nat → List Value) (st : Nat → St) (p : Nat) : Do → List Do → Prop
  | snd0 (v : Value) (es : List Value) : p = 0 → st 0 = .live none → e 0 = v :: es → Head c F e st p (.pr (.snd (c 0) v)) ((src (c 0) es).map .pr)
  | cls0 : p = 0 → st 0 = .live none → e 0 = [] → Head c F e st p (.pr (.cls (c 0))) []
  | snd (q : Nat) (v : Value) : p = q + 1 → st p = .live (some v) → Head c F e st p (.pr (.snd (c p) v)) ((hnd (c q) (c p) (F p) (e q)).map .pr)
  | rcv (q : Nat) (v : Value) (es : List Value) : p = q + 1 → st p = .live none → e q = v :: es → Head c F e st p (.pr (.rcv (c q) v)) ((Pr.snd (c p) (F p v) :: hnd (c q) (c p) (F p) es).map .pr)
  | eof (q : Nat) : p = q + 1 → st p = .live none → e q = [] → Head c F e st p (.pr (.eof (c q))) [.pr (.cls (c p))]
  | cls (q : Nat) : p = q + 1 → st p = .clos → Head c F e st p (.pr (.cls (c p))) []

section
variable {b m : Nat} {c : Nat → Nat} {F : Nat → Value → Value} {e : Nat → List Value} {st : Nat → St} {a : Abs}

theorem Row.head (R : Row b m c F e st a) {p : Nat} {x : Do} {al : List Do} (hp : p < m) (h : a.sc (b + p) = x :: al) : Head c F e st p x al := by
  cases p with
  | zero =>
    have h0 := R.s0 hp
    rw [Nat.add_zero] at h
    rw [h] at h0
    rcases R.z0 hp with hd | hd
    · rw [hd] at h0; simp [St.scr0] at h0
    · rw [hd] at h0
      cases he : e 0 with
      | nil =>
        rw [he] at h0
        simp [St.scr0, src] at h0
        obtain ⟨rfl, rfl⟩ := h0
        exact .cls0 rfl hd he
      | cons v es =>
        rw [he] at h0
        simp only [St.scr0, src, List.map_cons, List.cons_append, List.cons.injEq] at h0
        obtain ⟨rfl, rfl⟩ := h0
        exact .snd0 v es rfl hd he
  | succ q =>
    have h1 := R.sc q hp
    rw [← Nat.add_assoc] at h
    rw [h] at h1
    cases hs : st (q + 1) with
    | done => rw [hs] at h1; simp [St.scr] at h1
    | clos =>
      rw [hs] at h1
      simp only [St.scr, List.map_cons, List.map_nil, List.cons.injEq] at h1
      obtain ⟨rfl, rfl⟩ := h1
      exact .cls q rfl hs
    | live o =>
      cases o with
      | some v =>
        rw [hs] at h1
        simp only [St.scr, List.map_cons, List.cons.injEq] at h1
        obtain ⟨rfl, rfl⟩ := h1
        exact .snd q v rfl hs
      | none =>
        rw [hs] at h1
        cases he : e q with
        | nil =>
          rw [he] at h1
          simp only [St.scr, hnd, List.map_cons, List.map_nil, List.cons.injEq] at h1
          obtain ⟨rfl, rfl⟩ := h1
          exact .eof q rfl hs he
        | cons v es =>
          rw [he] at h1
          simp only [St.scr, hnd, List.map_cons, List.cons.injEq] at h1
          obtain ⟨rfl, rfl⟩ := h1
          exact .rcv q v es rfl hs he

/-- The heads by what they are. -/
theorem Head.isSnd {p k : Nat} {v : Value} {al : List Do} (h : Head c F e st p (.pr (.snd k v)) al) : k = c p ∧ ((p = 0 ∧ st 0 = .live none ∧ ∃ es, e 0 = v :: es ∧ al = (src (c 0) es).map .pr) ∨ (∃ q, p = q + 1 ∧ st p = .live (some v) ∧ al = (hnd (c q) (c p) (F p) (e q)).map .pr)) := by
  cases h with
  | snd0 _ es h1 h2 h3 => subst h1; exact ⟨rfl, .inl ⟨rfl, h2, es, h3, rfl⟩⟩
  | snd q _ h1 h2 => exact ⟨rfl, .inr ⟨q, h1, h2, rfl⟩⟩
theorem Head.isRcv {p k : Nat} {v : Value} {al : List Do} (h : Head c F e st p (.pr (.rcv k v)) al) : ∃ q es, p = q + 1 ∧ k = c q ∧ st p = .live none ∧ e q = v :: es ∧ al = (Pr.snd (c p) (F p v) :: hnd (c q) (c p) (F p) es).map .pr := by
  cases h with
  | rcv q _ es h1 h2 h3 => exact ⟨q, es, h1, rfl, h2, h3, rfl⟩
theorem Head.isEof {p k : Nat} {al : List Do} (h : Head c F e st p (.pr (.eof k)) al) : ∃ q, p = q + 1 ∧ k = c q ∧ st p = .live none ∧ e q = [] ∧ al = [.pr (.cls (c p))] := by
  cases h with
  | eof q h1 h2 h3 => exact ⟨q, h1, rfl, h2, h3, rfl⟩
theorem Head.isCls {p k : Nat} {al : List Do} (h : Head c F e st p (.pr (.cls k)) al) : k = c p ∧ al = [] ∧ ((p = 0 ∧ st 0 = .live none ∧ e 0 = []) ∨ (∃ q, p = q + 1 ∧ st p = .clos)) := by
  cases h with
  | cls0 h1 h2 h3 => subst h1; exact ⟨rfl, rfl, .inl ⟨rfl, h2, h3⟩⟩
  | cls q h1 h2 => exact ⟨rfl, rfl, .inr ⟨q, h1, h2⟩⟩
theorem Head.noFork {p : Nat} {T cs : List Nat} {kid : List Pr} {al : List Do} (h : Head c F e st p (.fork T cs kid) al) : False := by cases h

/-- Goroutine 0's head. -/
theorem mains_head {ci : Nat} {xs : List Value} {l : List (Nat × (Value → Value))} {x : Do} {al : List Do} (h : mains ci xs l = x :: al) :
    (l = [] ∧ xs = [] ∧ x = .pr (.eof ci) ∧ al = []) ∨ (l = [] ∧ ∃ v vs, xs = v :: vs ∧ x = .pr (.rcv ci v) ∧ al = mains ci vs []) ∨
    (∃ co G l', l = (co, G) :: l' ∧ x = .fork [] [co] (hnd ci co G xs) ∧ al = mains co (xs.map G) l') := by
  cases l with
  | nil =>
    cases xs with
    | nil => simp only [mains, List.map_nil, List.nil_append, List.cons.injEq] at h; obtain ⟨rfl, rfl⟩ := h; exact .inl ⟨rfl, rfl, rfl, rfl⟩
    | cons v vs =>
      simp only [mains, List.map_cons, List.cons_append, List.cons.injEq] at h
      obtain ⟨rfl, rfl⟩ := h
      exact .inr (.inl ⟨rfl, v, vs, rfl, rfl, rfl⟩)
  | cons y l =>
    obtain ⟨co, G⟩ := y
    simp only [mains, List.cons.injEq] at h
    obtain ⟨rfl, rfl⟩ := h
    exact .inr (.inr ⟨co, G, l, rfl, rfl, rfl⟩)

/-- Whoever has something to do is goroutine 0 or of the row. -/
theorem Row.who (R : Row b m c F e st a) {i : Nat} (hi : i < a.n) (h : a.sc i ≠ []) : i = 0 ∨ ∃ p, p < m ∧ i = b + p := by
  by_cases h0 : i = 0
  · exact .inl h0
  · refine .inr ⟨i - b, ?_, ?_⟩
    all_goals
      have h1 : ¬ i < b := fun hlt => h (R.old i hlt h0).1
      have := R.nn
      omega

end
end Go.Proofs.Ytplndihadjfliaa.Net
/-
  A ROW OF GOROUTINES: who stands at which channel.
-/
set_option linter.unusedSimpArgs false
set_option linter.unusedVariables false
namespace Go.Proofs.Ytplndihadjfliaa.Net
open Go Go.Conc Go.ConcN

section
variable {b m : Nat} {c : Nat → Nat} {F : Nat → Value → Value} {e : Nat → List Value} {st : Nat → St} {a : Abs}

/-- What goroutine 0 may be at while the row stands: nothing, or the rest of its script. -/
def Main0 (m : Nat) (c : Nat → Nat) (e : Nat → List Value) (st : Nat → St) (a : Abs) : Prop :=
  (∃ l, Fresh a l ∧ a.sc 0 = mains (c m) (e m) l) ∨ (st m = .done ∧ a.sc 0 = [])

theorem KRow.two (h : KRow b a) : (∃ T c0 vs l, a.n = b ∧ 0 < b ∧ (∀ j, j < b → j ≠ 0 → a.sc j = [] ∧ j ∈ a.kn 0) ∧ Fresh a ((c0, id) :: l) ∧ a.sc 0 = .fork T [c0] (src c0 vs) :: mains c0 vs l) ∨
    (∃ m c F e st, Row b (m + 1) c F e st a ∧ Main0 m c e st a) := by
  cases h with
  | start T c0 vs l h1 h2 h3 h4 h5 => exact .inl ⟨T, c0, vs, l, h1, h2, h3, h4, h5⟩
  | go l R hf h => exact .inr ⟨_, _, _, _, _, R, .inl ⟨l, hf, h⟩⟩
  | fin R hd _ h => exact .inr ⟨_, _, _, _, _, R, .inr ⟨hd, h⟩⟩

/-- At the start goroutine 0 alone has something to do: a go statement. -/
theorem start_only {i : Nat} {p : Pr} {al : List Do} {T cs : List Nat} {kid : List Pr} {bs : List Do} (hn : a.n = b) (old : ∀ j, j < b → j ≠ 0 → a.sc j = [] ∧ j ∈ a.kn 0) (h0 : a.sc 0 = .fork T cs kid :: bs) (hi : i < a.n) (h : a.sc i = .pr p :: al) : False := by
  by_cases e0 : i = 0
  · subst e0; rw [h0] at h; cases h
  · rw [(old i (by omega) e0).1] at h; cases h

theorem Row.sndAt (R : Row b (m + 1) c F e st a) (M : Main0 m c e st a) {i k : Nat} {v : Value} {al : List Do} (hi : i < a.n) (h : a.sc i = .pr (.snd k v) :: al) :
    ∃ p, p < m + 1 ∧ i = b + p ∧ k = c p ∧ (∃ es, e p = v :: es) ∧ st p ≠ .done ∧ Head c F e st p (.pr (.snd k v)) al := by
  rcases R.who hi (by rw [h]; simp) with rfl | ⟨p, hp, rfl⟩
  · rcases M with ⟨l, _, h0⟩ | ⟨_, h0⟩
    · rw [h0] at h
      rcases mains_head h with ⟨_, _, h, _⟩ | ⟨_, _, _, _, h, _⟩ | ⟨_, _, _, _, h, _⟩ <;> cases h
    · rw [h0] at h; cases h
  · have hh := R.head hp h
    obtain ⟨hk, h1⟩ := hh.isSnd
    refine ⟨p, hp, rfl, hk, ?_, ?_, hh⟩
    · rcases h1 with ⟨rfl, _, es, he, _⟩ | ⟨q, rfl, hs, _⟩
      · exact ⟨es, he⟩
      · exact ⟨_, by rw [R.em q hp, hs]; rfl⟩
    · rcases h1 with ⟨rfl, hs, _⟩ | ⟨q, rfl, hs, _⟩ <;> rw [hs] <;> simp

/-- Who takes from channel c q: the next of the row, or goroutine 0. -/
theorem Row.rcvAt (R : Row b (m + 1) c F e st a) (M : Main0 m c e st a) {i k : Nat} {v : Value} {al : List Do} (hi : i < a.n) (h : a.sc i = .pr (.rcv k v) :: al) :
    ∃ q, q < m + 1 ∧ k = c q ∧ (∃ es, e q = v :: es) ∧ ((q + 1 < m + 1 ∧ i = b + (q + 1)) ∨ (q = m ∧ i = 0)) := by
  rcases R.who hi (by rw [h]; simp) with rfl | ⟨p, hp, rfl⟩
  · rcases M with ⟨l, _, h0⟩ | ⟨_, h0⟩
    · rw [h0] at h
      rcases mains_head h with ⟨_, _, h, _⟩ | ⟨_, v', vs, he, h, _⟩ | ⟨_, _, _, _, h, _⟩
      · cases h
      · cases h; exact ⟨m, by omega, rfl, ⟨vs, he⟩, .inr ⟨rfl, rfl⟩⟩
      · cases h
    · rw [h0] at h; cases h
  · obtain ⟨q, es, rfl, hk, _, he, _⟩ := (R.head hp h).isRcv
    exact ⟨q, by omega, hk, ⟨es, he⟩, .inl ⟨hp, rfl⟩⟩

theorem Row.eofAt (R : Row b (m + 1) c F e st a) (M : Main0 m c e st a) {i k : Nat} {al : List Do} (hi : i < a.n) (h : a.sc i = .pr (.eof k) :: al) :
    ∃ q, q < m + 1 ∧ k = c q ∧ e q = [] ∧ ((q + 1 < m + 1 ∧ i = b + (q + 1)) ∨ (q = m ∧ i = 0)) := by
  rcases R.who hi (by rw [h]; simp) with rfl | ⟨p, hp, rfl⟩
  · rcases M with ⟨l, _, h0⟩ | ⟨_, h0⟩
    · rw [h0] at h
      rcases mains_head h with ⟨_, he, h, _⟩ | ⟨_, v', vs, he, h, _⟩ | ⟨_, _, _, _, h, _⟩
      · cases h; exact ⟨m, by omega, rfl, he, .inr ⟨rfl, rfl⟩⟩
      · cases h
      · cases h
    · rw [h0] at h; cases h
  · obtain ⟨q, rfl, hk, _, he, _⟩ := (R.head hp h).isEof
    exact ⟨q, by omega, hk, he, .inl ⟨hp, rfl⟩⟩

/-- Whoever has something to hand on is not done. -/
theorem Row.notDone (R : Row b (m + 1) c F e st a) {q : Nat} {v : Value} {es : List Value} (hq : q < m + 1) (h : e q = v :: es) : st q ≠ .done := by
  intro hd
  cases q with
  | zero => rw [R.e0 (by omega) hd] at h; cases h
  | succ q => rw [R.em q hq, hd] at h; cases h

theorem krow_noEof {i j k : Nat} {v : Value} {al bs : List Do} (h : KRow b a) (hi : i < a.n) (hj : j < a.n) (hs : a.sc i = .pr (.snd k v) :: al) : a.sc j ≠ .pr (.eof k) :: bs := by
  intro hsj
  rcases h.two with ⟨T, c0, vs, l, hn, _, old, _, h0⟩ | ⟨m, c, F, e, st, R, M⟩
  · exact start_only hn old h0 hi hs
  · obtain ⟨p, hp, _, hk, ⟨es, he⟩, _⟩ := R.sndAt M hi hs
    obtain ⟨q, hq, hk', he', _⟩ := R.eofAt M hj hsj
    have : p = q := R.inj p q hp hq (hk.symm.trans hk')
    subst this
    rw [he] at he'; cases he'

theorem krow_sndOpen {i k : Nat} {v : Value} {al : List Do} (h : KRow b a) (hi : i < a.n) (hs : a.sc i = .pr (.snd k v) :: al) : k ∈ a.ch ∧ a.shut k = false := by
  rcases h.two with ⟨T, c0, vs, l, hn, _, old, _, h0⟩ | ⟨m, c, F, e, st, R, M⟩
  · exact (start_only hn old h0 hi hs).elim
  · obtain ⟨p, hp, _, rfl, _, hd, _⟩ := R.sndAt M hi hs
    refine ⟨R.chs p hp, ?_⟩
    have := R.sh p hp
    cases hsh : a.shut (c p) with
    | false => rfl
    | true => exact absurd (this.1 hsh) hd

theorem krow_rcvOpen {i k : Nat} {v : Value} {al : List Do} (h : KRow b a) (hi : i < a.n) (hs : a.sc i = .pr (.rcv k v) :: al) : k ∈ a.ch ∧ a.shut k = false := by
  rcases h.two with ⟨T, c0, vs, l, hn, _, old, _, h0⟩ | ⟨m, c, F, e, st, R, M⟩
  · exact (start_only hn old h0 hi hs).elim
  · obtain ⟨q, hq, rfl, ⟨es, he⟩, _⟩ := R.rcvAt M hi hs
    refine ⟨R.chs q hq, ?_⟩
    have := R.sh q hq
    cases hsh : a.shut (c q) with
    | false => rfl
    | true => exact absurd (this.1 hsh) (R.notDone hq he)

theorem krow_eofIn {i k : Nat} {al : List Do} (h : KRow b a) (hi : i < a.n) (hs : a.sc i = .pr (.eof k) :: al) : k ∈ a.ch := by
  rcases h.two with ⟨T, c0, vs, l, hn, _, old, _, h0⟩ | ⟨m, c, F, e, st, R, M⟩
  · exact (start_only hn old h0 hi hs).elim
  · obtain ⟨q, hq, rfl, _⟩ := R.eofAt M hi hs
    exact R.chs q hq

theorem krow_sndOne {i j k : Nat} {v v' : Value} {al bs : List Do} (h : KRow b a) (hi : i < a.n) (hj : j < a.n) (hs : a.sc i = .pr (.snd k v) :: al) (hs' : a.sc j = .pr (.snd k v') :: bs) : i = j := by
  rcases h.two with ⟨T, c0, vs, l, hn, _, old, _, h0⟩ | ⟨m, c, F, e, st, R, M⟩
  · exact (start_only hn old h0 hi hs).elim
  · obtain ⟨p, hp, rfl, hk, _⟩ := R.sndAt M hi hs
    obtain ⟨q, hq, rfl, hk', _⟩ := R.sndAt M hj hs'
    rw [R.inj p q hp hq (hk.symm.trans hk')]

theorem krow_rcvOne {i j k : Nat} {v v' : Value} {al bs : List Do} (h : KRow b a) (hi : i < a.n) (hj : j < a.n) (hs : a.sc i = .pr (.rcv k v) :: al) (hs' : a.sc j = .pr (.rcv k v') :: bs) : i = j := by
  rcases h.two with ⟨T, c0, vs, l, hn, _, old, _, h0⟩ | ⟨m, c, F, e, st, R, M⟩
  · exact (start_only hn old h0 hi hs).elim
  · obtain ⟨p, hp, hk, _, h1⟩ := R.rcvAt M hi hs
    obtain ⟨q, hq, hk', _, h2⟩ := R.rcvAt M hj hs'
    have := R.inj p q hp hq (hk.symm.trans hk')
    omega

theorem krow_rcvEof {i j k : Nat} {v : Value} {al bs : List Do} (h : KRow b a) (hi : i < a.n) (hj : j < a.n) (hs : a.sc i = .pr (.rcv k v) :: al) : a.sc j ≠ .pr (.eof k) :: bs := by
  intro hs'
  rcases h.two with ⟨T, c0, vs, l, hn, _, old, _, h0⟩ | ⟨m, c, F, e, st, R, M⟩
  · exact start_only hn old h0 hi hs
  · obtain ⟨p, hp, hk, ⟨es, he⟩, _⟩ := R.rcvAt M hi hs
    obtain ⟨q, hq, hk', he', _⟩ := R.eofAt M hj hs'
    have := R.inj p q hp hq (hk.symm.trans hk')
    subst this
    rw [he] at he'; cases he'

end
end Go.Proofs.Ytplndihadjfliaa.Net
/-
  A ROW OF GOROUTINES: a value passes.
-/
set_option linter.unusedSimpArgs false
set_option linter.unusedVariables false
namespace Go.Proofs.Ytplndihadjfliaa.Net
open Go Go.Conc Go.ConcN

section
variable {b m : Nat} {c : Nat → Nat} {F : Nat → Value → Value} {e : Nat → List Value} {st : Nat → St} {a : Abs}

/-- Goroutine b + p has handed on v: its own part of the row. -/
theorem Row.sent (R : Row b (m + 1) c F e st a) {p : Nat} {v : Value} {al : List Do} (hp : p < m + 1) (h : Head c F e st p (.pr (.snd (c p) v)) al) :
    ∃ es, e p = v :: es ∧ al = ((St.live none).scr0 (c 0) es).map .pr ∧ p = 0 ∨ ∃ q es, p = q + 1 ∧ e p = v :: es ∧ es = (e q).map (F p) ∧ al = ((St.live none).scr (c q) (c p) (F p) (e q)).map .pr := by
  obtain ⟨_, h1⟩ := h.isSnd
  rcases h1 with ⟨rfl, hs, es, he, ha⟩ | ⟨q, rfl, hs, ha⟩
  · exact ⟨es, .inl ⟨he, ha, rfl⟩⟩
  · refine ⟨[], .inr ⟨q, (e q).map (F (q + 1)), rfl, ?_, rfl, ha⟩⟩
    rw [R.em q hp, hs]; rfl

end
end Go.Proofs.Ytplndihadjfliaa.Net
/-
  A ROW OF GOROUTINES: a value passes within the row.
-/
set_option linter.unusedSimpArgs false
set_option linter.unusedVariables false
namespace Go.Proofs.Ytplndihadjfliaa.Net
open Go Go.Conc Go.ConcN

section
variable {b m : Nat} {c : Nat → Nat} {F : Nat → Value → Value} {e : Nat → List Value} {st : Nat → St} {a : Abs}

theorem Row.pass1 (R : Row b (m + 1) c F e st a) {p : Nat} {v : Value} {al bs : List Do} (hp : p + 1 < m + 1) (hs : a.sc (b + p) = .pr (.snd (c p) v) :: al) (hr : a.sc (b + (p + 1)) = .pr (.rcv (c p) v) :: bs) :
    ∃ e' st', Row b (m + 1) c F e' st' (a.pass (b + p) (b + (p + 1)) al bs) ∧ e' m = e m ∧ (st' m = .done ↔ st m = .done) := by
  have h1 := R.sent (by omega) (R.head (by omega) hs)
  obtain ⟨q, es', hq, _, hl, he', hb⟩ := (R.head hp hr).isRcv
  obtain rfl : q = p := by omega
  have hds : st q ≠ .done := R.notDone (by omega) he'
  have hdl : ∀ k, k < m + 1 → q ≤ k → st k ≠ .done ∧ st k ≠ .clos := by
    intro k hk hqk
    induction k with
    | zero => 
      have : q = 0 := by omega
      subst this
      refine ⟨hds, fun h => ?_⟩
      rcases R.z0 (by omega) with h' | h' <;> rw [h'] at h <;> cases h
    | succ k ih =>
      rcases Nat.lt_or_ge k q with hlt | hge
      · obtain rfl : q = k + 1 := by omega
        refine ⟨hds, fun h => ?_⟩
        have := R.em k hk
        rw [h, he'] at this
        cases this
      · have := (ih (by omega) hge).1
        exact ⟨fun h => this (R.dn k hk (.inr h)), fun h => this (R.dn k hk (.inl h))⟩
  have hem := R.em q hp
  rw [hl, he'] at hem
  simp only [St.emit, List.map_cons] at hem
  refine ⟨put e q es', put (put st q (.live none)) (q + 1) (.live (some (F (q + 1) v))), ⟨R.nn, R.b0, R.inj, R.chs, fun j hj j0 => ?_, fun _ => ?_, fun k hk => ?_, fun k hk => ?_, fun k hk hd => ?_, fun _ hd => ?_, fun _ => ?_, fun k hk => ?_, fun k hk hd => ?_, fun k hk hd => ?_⟩, put_ne _ _ (by omega), ?_⟩
  · obtain ⟨x1, x2⟩ := R.old j hj j0
    refine ⟨?_, x2⟩
    simp only [Abs.pass, put, show j ≠ b + (q + 1) by omega, show j ≠ b + q by omega, if_false]
    exact x1
  · by_cases hq0 : q = 0
    · subst hq0
      rcases h1 with ⟨es, h1⟩
      rcases h1 with ⟨h2, h3, _⟩ | ⟨q', es, h2, _⟩
      · rw [he'] at h2; cases h2
        simp only [Abs.pass, put, show b ≠ b + (0 + 1) by omega, if_false, Nat.add_zero, if_true, show (0 : Nat) ≠ 0 + 1 by omega]
        exact h3
      · omega
    · simp only [Abs.pass, put, show b ≠ b + (q + 1) by omega, show b ≠ b + q by omega, show (0 : Nat) ≠ q + 1 by omega, show (0 : Nat) ≠ q by omega, if_false]
      exact R.s0 (by omega)
  · by_cases h2 : k = q
    · subst h2
      simp only [Abs.pass, put, show b + k + 1 = b + (k + 1) by omega, if_true]
      exact hb
    · by_cases h3 : k + 1 = q
      · subst h3
        rcases h1 with ⟨es, h1⟩
        rcases h1 with ⟨_, _, h2⟩ | ⟨q', es, h2, _, _, h4⟩
        · omega
        · obtain rfl : q' = k := by omega
          simp only [Abs.pass, put, show b + q' + 1 = b + (q' + 1) by omega, show b + (q' + 1) ≠ b + (q' + 1 + 1) by omega, show q' + 1 ≠ q' + 1 + 1 by omega, show q' ≠ q' + 1 by omega, if_false, if_true]
          exact h4
      · simp only [Abs.pass, put, show b + k + 1 ≠ b + (q + 1) by omega, show b + k + 1 ≠ b + q by omega, show k + 1 ≠ q + 1 by omega, h2, h3, if_false]
        exact R.sc k hk
  · by_cases h2 : k = q
    · subst h2
      simp only [put, show k + 1 ≠ k by omega, if_false, if_true]
      exact hem
    · by_cases h3 : k + 1 = q
      · subst h3
        rcases h1 with ⟨es, h1⟩
        rcases h1 with ⟨_, _, h2⟩ | ⟨q', es, h2, h5, h6, _⟩
        · omega
        · obtain rfl : q' = k := by omega
          rw [he'] at h5; cases h5
          simp only [put, show q' + 1 ≠ q' + 1 + 1 by omega, show q' ≠ q' + 1 by omega, if_false, if_true]
          exact h6
      · simp only [put, show k + 1 ≠ q + 1 by omega, h2, h3, if_false]
        exact R.em k hk
  · have hk' : ¬ (q ≤ k + 1) := by
      intro hle
      by_cases h2 : k + 1 = q + 1
      · simp only [put, h2, if_true] at hd; rcases hd with hd | hd <;> cases hd
      · by_cases h3 : k + 1 = q
        · simp only [put, h3, if_true, show q ≠ q + 1 by omega, if_false] at hd; rcases hd with hd | hd <;> cases hd
        · simp only [put, h2, h3, if_false] at hd
          obtain ⟨y1, y2⟩ := hdl (k + 1) hk hle
          rcases hd with hd | hd
          · exact y2 hd
          · exact y1 hd
    simp only [put, show k + 1 ≠ q + 1 by omega, show k + 1 ≠ q by omega, show k ≠ q + 1 by omega, show k ≠ q by omega, if_false] at hd ⊢
    exact R.dn k hk hd
  · by_cases h2 : q = 0
    · subst h2; simp [put] at hd
    · simp only [put, show (0 : Nat) ≠ q + 1 by omega, show (0 : Nat) ≠ q by omega, if_false] at hd ⊢
      exact R.e0 (by omega) hd
  · by_cases h2 : q = 0
    · subst h2; exact .inr (by simp [put])
    · simp only [put, show (0 : Nat) ≠ q + 1 by omega, show (0 : Nat) ≠ q by omega, if_false]
      exact R.z0 (by omega)
  · by_cases h2 : k = q + 1
    · subst h2
      have := (hdl (q + 1) hk (by omega)).1
      have h3 := R.sh (q + 1) hk
      simp only [put, if_true]
      exact ⟨fun h => absurd (h3.1 h) this, fun h => by cases h⟩
    · by_cases h3 : k = q
      · subst h3
        simp only [put, h2, if_false, if_true]
        exact ⟨fun h => absurd ((R.sh k hk).1 h) hds, fun h => by cases h⟩
      · simp only [put, h2, h3, if_false]; exact R.sh k hk
  · have h2 : k ≠ q + 1 := by rintro rfl; simp only [put, if_true] at hd; rcases hd with hd | hd <;> cases hd
    have h3 : k ≠ q := by rintro rfl; simp only [put, h2, if_false, if_true] at hd; rcases hd with hd | hd <;> cases hd
    simp only [put, h2, h3, if_false] at hd
    exact R.kn k hk hd
  · have h2 : k ≠ q + 1 := by rintro rfl; simp only [put, if_true] at hd; cases hd
    have h3 : k ≠ q := by rintro rfl; simp only [put, h2, if_false, if_true] at hd; cases hd
    simp only [put, h2, h3, if_false] at hd
    exact R.kc k hk hd
  · by_cases h2 : m = q + 1
    · subst h2
      simp only [put, if_true]
      exact ⟨fun h => (by cases h), fun h => absurd h (hdl (q + 1) (by omega) (by omega)).1⟩
    · simp only [put, h2, show m ≠ q by omega, if_false]

end
end Go.Proofs.Ytplndihadjfliaa.Net
/-
  A ROW OF GOROUTINES: the last hands a value to goroutine 0.
-/
set_option linter.unusedSimpArgs false
set_option linter.unusedVariables false
namespace Go.Proofs.Ytplndihadjfliaa.Net
open Go Go.Conc Go.ConcN

section
variable {b m : Nat} {c : Nat → Nat} {F : Nat → Value → Value} {e : Nat → List Value} {st : Nat → St} {a : Abs}

theorem Row.pass2 (R : Row b (m + 1) c F e st a) {v : Value} {es' : List Value} {al bs : List Do} (hs : a.sc (b + m) = .pr (.snd (c m) v) :: al) (he' : e m = v :: es') :
    ∃ e' st', Row b (m + 1) c F e' st' (a.pass (b + m) 0 al bs) ∧ e' m = es' := by
  have h1 := R.sent (by omega) (R.head (by omega) hs)
  have hds : st m ≠ .done := R.notDone (by omega) he'
  have b0 := R.b0
  refine ⟨put e m es', put st m (.live none), ⟨R.nn, R.b0, R.inj, R.chs, fun j hj j0 => ?_, fun _ => ?_, fun k hk => ?_, fun k hk => ?_, fun k hk hd => ?_, fun _ hd => ?_, fun _ => ?_, fun k hk => ?_, fun k hk hd => ?_, fun k hk hd => ?_⟩, put_same _ _ _⟩
  · obtain ⟨x1, x2⟩ := R.old j hj j0
    refine ⟨?_, x2⟩
    simp only [Abs.pass, put, show j ≠ b + m by omega, j0, if_false]
    exact x1
  · by_cases hq0 : m = 0
    · subst hq0
      rcases h1 with ⟨es, h1⟩
      rcases h1 with ⟨h2, h3, _⟩ | ⟨q', es, h2, _⟩
      · rw [he'] at h2; cases h2
        simp only [Abs.pass, put, show b ≠ 0 by omega, if_false, Nat.add_zero, if_true]
        exact h3
      · omega
    · simp only [Abs.pass, put, show b ≠ b + m by omega, show b ≠ 0 by omega, show (0 : Nat) ≠ m by omega, if_false]
      exact R.s0 (by omega)
  · by_cases h3 : k + 1 = m
    · subst h3
      rcases h1 with ⟨es, h1⟩
      rcases h1 with ⟨_, _, h2⟩ | ⟨q', es, h2, _, _, h4⟩
      · omega
      · obtain rfl : q' = k := by omega
        simp only [Abs.pass, put, show b + q' + 1 = b + (q' + 1) by omega, show b + (q' + 1) ≠ 0 by omega, show q' ≠ q' + 1 by omega, if_false, if_true]
        exact h4
    · simp only [Abs.pass, put, show b + k + 1 ≠ 0 by omega, show b + k + 1 ≠ b + m by omega, show k ≠ m by omega, h3, if_false]
      exact R.sc k hk
  · by_cases h3 : k + 1 = m
    · subst h3
      rcases h1 with ⟨es, h1⟩
      rcases h1 with ⟨_, _, h2⟩ | ⟨q', es, h2, h5, h6, _⟩
      · omega
      · obtain rfl : q' = k := by omega
        rw [he'] at h5; cases h5
        simp only [put, show q' ≠ q' + 1 by omega, if_false, if_true]
        exact h6
    · simp only [put, show k ≠ m by omega, h3, if_false]
      exact R.em k hk
  · by_cases h3 : k + 1 = m
    · simp only [put, h3, if_true] at hd; rcases hd with hd | hd <;> cases hd
    · simp only [put, show k ≠ m by omega, h3, if_false] at hd ⊢
      exact R.dn k hk hd
  · by_cases h2 : m = 0
    · subst h2; simp [put] at hd
    · simp only [put, show (0 : Nat) ≠ m by omega, if_false] at hd ⊢
      exact R.e0 (by omega) hd
  · by_cases h2 : m = 0
    · subst h2; exact .inr (by simp [put])
    · simp only [put, show (0 : Nat) ≠ m by omega, if_false]
      exact R.z0 (by omega)
  · by_cases h3 : k = m
    · subst h3
      simp only [put, if_true]
      exact ⟨fun h => absurd ((R.sh k hk).1 h) hds, fun h => (by cases h)⟩
    · simp only [put, h3, if_false]; exact R.sh k hk
  · have h3 : k ≠ m := by rintro rfl; simp only [put, if_true] at hd; rcases hd with hd | hd <;> cases hd
    simp only [put, h3, if_false] at hd
    exact R.kn k hk hd
  · have h3 : k ≠ m := by rintro rfl; simp only [put, if_true] at hd; cases hd
    simp only [put, h3, if_false] at hd
    exact R.kc k hk hd

end
end Go.Proofs.Ytplndihadjfliaa.Net
/-
  A ROW OF GOROUTINES: Law's field 'pass'.
-/
set_option linter.unusedSimpArgs false
set_option linter.unusedVariables false
namespace Go.Proofs.Ytplndihadjfliaa.Net
open Go Go.Conc Go.ConcN

section
variable {b : Nat} {a : Abs}

theorem krow_pass {i j k : Nat} {v v' : Value} {al bs : List Do} (h : KRow b a) (hi : i < a.n) (hj : j < a.n) (hs : a.sc i = .pr (.snd k v) :: al) (hr : a.sc j = .pr (.rcv k v') :: bs) :
    i ≠ j ∧ v = v' ∧ KRow b (a.pass i j al bs) ∧ rank (a.pass i j al bs) < rank a := by
  have hij : i ≠ j := by rintro rfl; rw [hs] at hr; cases hr
  refine ⟨hij, ?_⟩
  rcases h.two with ⟨T, c0, vs, l, hn, _, old, _, h0⟩ | ⟨m, c, F, e, st, R, M⟩
  · exact (start_only hn old h0 hi hs).elim
  obtain ⟨p, hp, rfl, rfl, ⟨es, he⟩, hd, hh⟩ := R.sndAt M hi hs
  obtain ⟨q, hq, hk, ⟨es', he'⟩, hw⟩ := R.rcvAt M hj hr
  obtain rfl : p = q := R.inj p q hp hq hk
  rw [he] at he'
  cases he'
  refine ⟨rfl, ?_, rank_pass hi hj hij hs hr⟩
  have b0 := R.b0
  rcases hw with ⟨hq1, rfl⟩ | ⟨rfl, rfl⟩
  · obtain ⟨e', st', R', x1, x2⟩ := R.pass1 hq1 hs hr
    have hs0 : (a.pass (b + p) (b + (p + 1)) al bs).sc 0 = a.sc 0 := by simp only [Abs.pass, put, show (0 : Nat) ≠ b + (p + 1) by omega, show (0 : Nat) ≠ b + p by omega, if_false]
    rcases M with ⟨l, hf, h0⟩ | ⟨hdm, h0⟩
    · exact .go l R' hf (by rw [hs0, h0, x1])
    · have : ∀ k, k < m + 1 → p ≤ k → st k = .done → st p = .done := by
        intro k hk hpk
        induction k with
        | zero => intro h; obtain rfl : p = 0 := by omega
                  exact h
        | succ k ih =>
          intro h
          rcases Nat.lt_or_ge k p with hlt | hge
          · obtain rfl : p = k + 1 := by omega
            exact h
          · exact ih (by omega) hge (R.dn k hk (.inr h))
      exact absurd (this m (by omega) (by omega) hdm) hd
  · obtain ⟨e', st', R', x1⟩ := R.pass2 hs he
    rcases M with ⟨l, hf, h0⟩ | ⟨hdm, h0⟩
    · rw [h0] at hr
      rcases mains_head hr with ⟨_, _, h, _⟩ | ⟨rfl, v', vs, hx, h, ha⟩ | ⟨_, _, _, _, h, _⟩
      · cases h
      · rw [he] at hx
        cases hx
        refine .go [] R' hf ?_
        have : (a.pass (b + p) 0 al bs).sc 0 = bs := by simp [Abs.pass, put]
        rw [this, x1, ha]
      · cases h
    · rw [h0] at hr; cases hr

end
end Go.Proofs.Ytplndihadjfliaa.Net
/-
  A ROW OF GOROUTINES: Law's fields 'pos' and 'last'.
-/
set_option linter.unusedSimpArgs false
set_option linter.unusedVariables false
namespace Go.Proofs.Ytplndihadjfliaa.Net
open Go Go.Conc Go.ConcN

section
variable {b : Nat} {a : Abs}

theorem krow_pos (h : KRow b a) : 0 < a.n := by
  rcases h.two with ⟨T, c0, vs, l, hn, b0, _⟩ | ⟨m, c, F, e, st, R, M⟩
  · omega
  · have := R.nn; omega

theorem mains_ne (ci : Nat) (xs : List Value) (l : List (Nat × (Value → Value))) : mains ci xs l ≠ [] := by
  cases l with
  | nil => simp [mains]
  | cons x l => obtain ⟨co, F⟩ := x; simp [mains]

theorem Row.allDone {m : Nat} {c : Nat → Nat} {F : Nat → Value → Value} {e : Nat → List Value} {st : Nat → St} (R : Row b (m + 1) c F e st a) (h : st m = .done) : ∀ d, d ≤ m → st (m - d) = .done := by
  intro d
  induction d with
  | zero => intro _; exact h
  | succ d ih =>
    intro hd
    refine R.dn (m - (d + 1)) (by omega) (.inr ?_)
    rw [show m - (d + 1) + 1 = m - d by omega]
    exact ih (by omega)

theorem krow_last (h : KRow b a) (h0 : a.sc 0 = []) : ∀ j, j < a.n → j ≠ 0 → a.sc j = [] ∧ j ∈ a.kn 0 := by
  cases h with
  | start T c0 vs l _ _ _ _ hs => rw [h0] at hs; cases hs
  | go l R hf hs => rw [h0] at hs; exact absurd hs.symm (mains_ne _ _ _)
  | @fin m c F e st R hd hk hs =>
    intro j hj j0
    have hn := R.nn
    rcases Nat.lt_or_ge j b with hlt | hge
    · exact R.old j hlt j0
    · obtain ⟨p, rfl⟩ := Nat.exists_eq_add_of_le hge
      refine ⟨?_, hk p (by omega)⟩
      have hdp : st p = .done := by have := R.allDone hd (m - p) (by omega); rwa [show m - (m - p) = p by omega] at this
      cases p with
      | zero => have := R.s0 (by omega); rw [hdp] at this; simpa [St.scr0] using this
      | succ q => have := R.sc q (by omega); rw [hdp] at this; simpa [St.scr, Nat.add_assoc] using this

end
end Go.Proofs.Ytplndihadjfliaa.Net
/-
  A ROW OF GOROUTINES: Law's field 'cls'.
-/
set_option linter.unusedSimpArgs false
set_option linter.unusedVariables false
namespace Go.Proofs.Ytplndihadjfliaa.Net
open Go Go.Conc Go.ConcN

section
variable {b m : Nat} {c : Nat → Nat} {F : Nat → Value → Value} {e : Nat → List Value} {st : Nat → St} {a : Abs}

/-- Who closes: where it stands, what it has still to hand on. -/
theorem Row.clsAt (R : Row b (m + 1) c F e st a) (M : Main0 m c e st a) {i k : Nat} {al : List Do} (hi : i < a.n) (h : a.sc i = .pr (.cls k) :: al) :
    ∃ p, p < m + 1 ∧ i = b + p ∧ k = c p ∧ al = [] ∧ e p = [] ∧ st p ≠ .done ∧ (∀ q, q < p → b + q ∈ a.kn (b + p)) ∧ (∀ q, p = q + 1 → st p = .clos) := by
  rcases R.who hi (by rw [h]; simp) with rfl | ⟨p, hp, rfl⟩
  · rcases M with ⟨l, _, h0⟩ | ⟨_, h0⟩
    · rw [h0] at h
      rcases mains_head h with ⟨_, _, h, _⟩ | ⟨_, _, _, _, h, _⟩ | ⟨_, _, _, _, h, _⟩ <;> cases h
    · rw [h0] at h; cases h
  · obtain ⟨hk, ha, h1⟩ := (R.head hp h).isCls
    refine ⟨p, hp, rfl, hk, ha, ?_⟩
    rcases h1 with ⟨rfl, hs, he⟩ | ⟨q, rfl, hs⟩
    · exact ⟨he, by rw [hs]; simp, fun q hq => by omega, fun q hq => by omega⟩
    · exact ⟨by rw [R.em q hp, hs]; rfl, by rw [hs]; simp, R.kn _ hp (.inl hs), fun _ _ => hs⟩

theorem Row.close (R : Row b (m + 1) c F e st a) {p : Nat} (hp : p < m + 1) (he : e p = []) (hd : st p ≠ .done) (hkn : ∀ q, q < p → b + q ∈ a.kn (b + p)) (hcl : ∀ q, p = q + 1 → st p = .clos) :
    Row b (m + 1) c F e (put st p .done) (a.close (b + p) (c p)) := by
  have b0 := R.b0
  refine ⟨R.nn, R.b0, R.inj, R.chs, fun j hj j0 => ?_, fun _ => ?_, fun k hk => ?_, fun k hk => ?_, fun k hk h => ?_, fun _ h => ?_, fun _ => ?_, fun k hk => ?_, fun k hk h => ?_, fun k hk h => ?_⟩
  · obtain ⟨x1, x2⟩ := R.old j hj j0
    refine ⟨?_, x2⟩
    simp only [Abs.close, put, show j ≠ b + p by omega, if_false]
    exact x1
  · by_cases h0 : p = 0
    · subst h0; simp [Abs.close, put, St.scr0]
    · simp only [Abs.close, put, show b ≠ b + p by omega, show (0 : Nat) ≠ p by omega, if_false]
      exact R.s0 (by omega)
  · by_cases h2 : k + 1 = p
    · subst h2; simp [Abs.close, put, Nat.add_assoc, St.scr]
    · simp only [Abs.close, put, show b + k + 1 ≠ b + p by omega, h2, if_false]
      exact R.sc k hk
  · by_cases h2 : k + 1 = p
    · subst h2; simp [put, he, St.emit]
    · simp only [put, h2, if_false]; exact R.em k hk
  · by_cases h2 : k = p
    · subst h2; simp [put]
    · by_cases h3 : k + 1 = p
      · subst h3
        simp only [put, h2, if_false]
        exact R.dn k hk (.inl (hcl k rfl))
      · simp only [put, h2, h3, if_false] at h ⊢; exact R.dn k hk h
  · by_cases h2 : p = 0
    · subst h2; exact he
    · simp only [put, show (0 : Nat) ≠ p by omega, if_false] at h; exact R.e0 (by omega) h
  · by_cases h2 : p = 0
    · subst h2; exact .inl (by simp [put])
    · simp only [put, show (0 : Nat) ≠ p by omega, if_false]; exact R.z0 (by omega)
  · by_cases h2 : k = p
    · subst h2; simp [Abs.close, put]
    · have h3 : c k ≠ c p := fun h => h2 (R.inj k p hk hp h)
      simp only [Abs.close, put, h2, h3, if_false]; exact R.sh k hk
  · by_cases h2 : k = p
    · subst h2; exact hkn
    · simp only [put, h2, if_false] at h; exact R.kn k hk h
  · by_cases h2 : k = p
    · subst h2
      intro q hq
      simp only [Abs.close, put, if_true, List.mem_cons]
      rcases Nat.lt_or_ge q k with hlt | hge
      · exact .inr (hkn q hlt)
      · exact .inl (by omega)
    · have h3 : c k ≠ c p := fun h => h2 (R.inj k p hk hp h)
      simp only [put, h2, if_false] at h
      simp only [Abs.close, put, h3, if_false]; exact R.kc k hk h

theorem krow_cls {i k : Nat} {al : List Do} (h : KRow b a) (hi : i < a.n) (hs : a.sc i = .pr (.cls k) :: al) :
    i ≠ 0 ∧ al = [] ∧ k ∈ a.ch ∧ a.shut k = false ∧ (∀ j v bs, j < a.n → a.sc j ≠ .pr (.rcv k v) :: bs) ∧ (∀ j v bs, j < a.n → a.sc j ≠ .pr (.snd k v) :: bs) ∧
    KRow b (a.close i k) ∧ rank (a.close i k) < rank a := by
  have hrank := rank_close hi hs
  rcases h.two with ⟨T, c0, vs, l, hn, _, old, _, h0⟩ | ⟨m, c, F, e, st, R, M⟩
  · exact (start_only hn old h0 hi hs).elim
  have b0 := R.b0
  obtain ⟨p, hp, rfl, rfl, rfl, he, hd, hkn, hcl⟩ := R.clsAt M hi hs
  refine ⟨by omega, rfl, R.chs p hp, ?_, fun j v bs hj hr => ?_, fun j v bs hj hr => ?_, ?_, hrank⟩
  · cases hsh : a.shut (c p) with
    | false => rfl
    | true => exact absurd ((R.sh p hp).1 hsh) hd
  · obtain ⟨q, hq, hk, ⟨es, he'⟩, _⟩ := R.rcvAt M hj hr
    have := R.inj p q hp hq hk
    subst this
    rw [he] at he'; cases he'
  · obtain ⟨q, hq, _, hk, ⟨es, he'⟩, _⟩ := R.sndAt M hj hr
    have := R.inj p q hp hq hk
    subst this
    rw [he] at he'; cases he'
  · have R' := R.close hp he hd hkn hcl
    have hs0 : (a.close (b + p) (c p)).sc 0 = a.sc 0 := by simp only [Abs.close, put, show (0 : Nat) ≠ b + p by omega, if_false]
    rcases M with ⟨l, hf, h0⟩ | ⟨hdm, h0⟩
    · refine .go l R' ⟨hf.1, fun x hx => ?_⟩ (by rw [hs0, h0])
      obtain ⟨x1, x2⟩ := hf.2 x hx
      refine ⟨x1, ?_⟩
      have : x.1 ≠ c p := fun h => x1 (h ▸ R.chs p hp)
      simp only [Abs.close, put, this, if_false]; exact x2
    · exact absurd (by have := R.allDone hdm (m - p) (by omega); rwa [show m - (m - p) = p by omega] at this) hd

end
end Go.Proofs.Ytplndihadjfliaa.Net
