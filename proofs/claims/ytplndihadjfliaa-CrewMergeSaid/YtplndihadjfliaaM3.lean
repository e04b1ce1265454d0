/-
  A NET OF GOROUTINES WITH select AND sync.WaitGroup: the end; a call behind a call; the beginning.
-/
import Derived.Test.YtplndihadjfliaaM2
import Derived.Conc.CrowdRun
set_option linter.unusedSimpArgs false
set_option linter.unusedVariables false
namespace Go.Proofs.Ytplndihadjfliaa.Mix
open Go Go.Conc Go.ConcN
open Go.ConcR (KK wgBlock WgAt stA smA rd wr)

/-- Goroutine 0 stands at its return. -/
def AtRet (P : Program) (Q : Value → World → Prop) (T _ch G : List Nat) (g : Goroutine) (w : World) : Prop := ∃ v es, stepG P true g w = .ended (.done v) w es ∧ (∀ e ∈ es, EvM T G w.heap.size e) ∧ Q v w

section
variable {P : Program} {z : Nat → Value} {ty : TypeId × Bool} {Post Post' : List Nat → List Nat → List Nat → Goroutine → World → Prop} {K K' : Abs → Prop} {rank rank' : Abs → Nat} {a : Abs} {f : Nat → Option Nat} {T : List Nat} {Ts : Nat → List Nat} {gs : Array Goroutine} {w : World} {t : Trace}

/-- A worker that leaves makes a step. -/
theorem Net.atQuit (L : Law K rank) (N : Net P z ty Post K a f T Ts gs w t) {i n d : Nat} {sl : Option (Nat × Nat)} {g : Goroutine} (hi : i < a.n) (h0 : i ≠ 0) (hg : gs[i]? = some g) (hfi : f i = some n) (hsc : a.sc i = []) (hrun : g.status = .running) (h : QuitsD P n (a.df i) g) :
    ∃ gs' f' ops dd, runT P (crowd gs (w.at d) sl) i = (.next (crowd gs' (w.at d) sl), ops) ∧ Lt2 (mu rank { a with df := put a.df i dd } f') (mu rank a f) ∧ Net P z ty Post K { a with df := put a.df i dd } f' T Ts gs' (w.at d) (t ++ ops) ∧ ∀ x, gs[0]? = some x → x.status = .running → gs'[0]? = some x := by
  have Nd := N.at d
  cases n with
  | zero => rw [h.1] at hrun; cases hrun
  | succ n =>
    rcases h with ⟨h, _⟩ | ⟨_, g', es, hmute, hgo, hq⟩
    · rw [h] at hrun; cases hrun
    · have hb : (i == 0) = false := by simpa using h0
      obtain ⟨hK', hrk'⟩ := L.quit a i (deafBehind (a.df i) es) N.k hi h0 hsc
      have hes : ∀ e ∈ es, e.loc = .mark .disable ∨ e.loc = .mark .enable := fun e he => by
        have := hmute e he
        obtain ⟨loc, wr, sy⟩ := e
        cases loc with
        | mark m => cases m <;> simp_all [Event.mute]
        | _ => simp_all [Event.mute]
      have htr := Nd.tr.bk (fn := g.frame.fn) (pos := g.frame.place) (es := es) (i := i) N.offG hi (Nat.le_refl _) (fun b hb => N.tsz b (.inr (.inr hb))) (fun e he => (hes e he).imp id .inl)
        (fun _ _ j e he => .inl (by
          have hem : e ∈ es := Array.mem_of_getElem? he
          rcases hes e hem with h | h <;> rw [Go.ConcR.ofEvent_loc_mark h] <;> rfl))
      obtain ⟨f', hN, hfi', hfo⟩ := Nd.turn (a' := { a with df := put a.df i (deafBehind (a.df i) es) }) (n' := n) (g := g) (g' := g') (w' := w.at d) L hi hg hK' rfl rfl rfl rfl rfl (fun _ _ => rfl) (fun k hk => put_ne _ _ hk) N.chan (fun ho => ⟨ho, (N.grp ho).1⟩) (Nat.le_refl _) (fun k _ _ => RR.refl _ _)
        (fun k p al _ hk hfk hsk => .inl (by have := N.opn k p al hk hfk hsk; cases p <;> exact this)) (by
          show Sit P z ty Post a.wg T a.ch a.G Ts i (put a.df i (deafBehind (a.df i) es) i) (a.sc i) (some n) g' (w.at d)
          rw [put_same, hsc]; exact .quit h0 hq) htr
      refine ⟨_, _, _, _, runT_crowd_go hg (by rw [hb]; exact hgo _), ?_, hN, fun x hx hxr => ?_⟩
      · have := lt_own (rank := rank) (f' := f') hi hfi hfi' (Nat.lt_succ_self n) fun k hki hk => by
          rcases hfo k hki hk with h | ⟨h1, h2, p, al, h3, h4⟩
          · exact .inl h
          · rcases h4 with rfl | h4
            · exact .inr ⟨(L.acs a k al N.k hk h3).1, h1, h2⟩
            · exact absurd (by have := N.opn k p al hk h1 h3; cases p <;> exact this) h4
        unfold mu at this ⊢
        rw [hrk']
        exact this
      · rw [get_map_set gs _ i 0 g' x hx, if_neg (fun e => h0 e.symm)]
        have : woken P g g' (w.at d) x = x := by
          rcases woken_or (P := P) g g' x (w.at d) with h | ⟨h, _⟩
          · rw [h, again_running _ (.inl hxr)]
          · exact h
        rw [this]

/-- WHERE GOROUTINE 0 STANDS AT ITS RETURN: whoever else is picked, it is picked in the end. -/
theorem net_end (L : Law K rank) {Q : Value → World → Prop} : ∀ (μ : Nat × Nat) {a : Abs} {f : Nat → Option Nat} {gs : Array Goroutine} {w : World} {t : Trace} (N : Net P z ty Post K a f T Ts gs w t) (sl : Option (Nat × Nat)) (g : Goroutine), mu rank a f = μ → a.sc 0 = [] → gs[0]? = some g →
    (∀ w₁, RC ty a.wg a.ch w w₁ → AtEnd (AtRet P Q) T a.ch a.G g w₁) → ∃ n last o w' t', runNT P (n + 1) (crowd gs w sl) t = (.ended o w', t') ∧ runN P n (crowd gs w sl) = .next last ∧ step P last = .ended o w' ∧ Go.Conc.Good P Q last o w' t' := by
  intro μ
  induction μ using (Prod.lex Nat.lt_wfRel Nat.lt_wfRel).wf.induction with
  | _ μ ih =>
  intro a f gs w t N sl g hμ hsi hg hend
  have hrun0 : g.status = .running := (hend w (RC.refl _ _)).1
  obtain ⟨i, x, d, sl', hx, hrun, hst⟩ := crowd_pick (P := P) (w := w) (sl := sl) N.awake ⟨0, g, hg, hrun0⟩
  have hi : i < a.n := N.lt hx
  by_cases h0 : i = 0
  · subst h0
    rw [hg] at hx
    obtain rfl := Option.some.inj hx
    obtain ⟨_, v, es, hstep, hes, hQ⟩ := hend (w.at d) (RC.at _ _ d)
    obtain ⟨o, w', ops, h1, h2⟩ := N.good L (Q := Q) (sl := sl) (sl' := sl') hg hsi hstep hes hQ
    have hT : stepT P (crowd gs w sl) = (.ended o w', ops) := hst.trans h1
    refine ⟨0, crowd gs w sl, o, w', t ++ ops, ?_, rfl, ?_, h2⟩
    · simp [runNT, hT]
    · show (stepT P _).1 = _
      rw [hT]
  · obtain ⟨y, hy, hs⟩ := N.sit i hi
    rw [hx] at hy
    obtain rfl := Option.some.inj hy
    have hlast := (L.last a N.k hsi i hi h0).1
    rw [hlast] at hs
    generalize hfi : f i = fi at hs
    cases hs with
    | ret h _ => exact absurd h h0
    | quit h1 h =>
      obtain ⟨gs', f', ops, dd, h1, h2, h3, h4⟩ := N.atQuit L (sl := sl') (d := d) hi h0 hx hfi hlast hrun h
      obtain ⟨n', last, o, w', t', r1, r2, r3, r4⟩ := ih _ (hμ ▸ h2) h3 sl' g rfl hsi (h4 g hg hrun0) fun w₁ h₁ => hend w₁ ((RC.at _ _ d).trans h₁)
      have hT := hst.trans h1
      refine ⟨n' + 1, last, o, w', t', ?_, ?_, r3, r4⟩
      · rw [runNT_succ_next hT]; exact r1
      · rw [Nat.add_comm, runN_add, ← runNT_fst P 1 _ t]
        simp only [runNT, hT]
        exact r2

/-! ### a call behind a call -/
/-- Goroutine 0 has a new script; all others have ended. -/
def Abs.again (a : Abs) (Wg : Nat) (al : List Do) : Abs :=
  { a with sc := put a.sc 0 al, shut := fun c => decide (c ∈ a.ck) && a.shut c, wg := Wg, on := false, v := 0, wt := 0, sm := 0, rel := fun _ => false }

/-- All but goroutine 0 have ended. -/
structure Abs.Rest (a : Abs) : Prop where
  pos : 0 < a.n
  ended : ∀ j, j < a.n → j ≠ 0 → a.sc j = [] ∧ j ∈ a.kn 0
  df0 : a.df 0 = 0

theorem Tr.again {B : Nat} (h : Tr Ts a B t) (R : a.Rest) (Wg : Nat) (al : List Do) : Tr Ts (a.again Wg al) B t := by
  have hs : ∀ j, j ≠ 0 → j < a.n → (a.again Wg al).out j := fun j h0 hj => .inl (by simp [Abs.again, put, h0, (R.ended j hj h0).1])
  refine ⟨h.ct, h.df, h.low, h.nr, fun i j hi hj => ?_, fun c hc => ?_, fun j _ hr => (by cases hr)⟩
  · obtain ⟨x1, x2, x3, x4⟩ := h.kn i j hi hj
    exact ⟨x1, x2, hs _ x1 x2, x4⟩
  · have hc : a.shut c = true := by simp only [Abs.again, Bool.and_eq_true] at hc; exact hc.2
    obtain ⟨pc, y1, y2, y3⟩ := h.kc c hc
    exact ⟨pc, y1, y2, fun j hj => let ⟨x1, x2, x3, x4⟩ := y3 j hj; ⟨x1, x2, hs _ x1 x2, x4⟩⟩

theorem Sit.post {ty' : TypeId × Bool} {Wg Wg' : Nat} {ch G : List Nat} {k n d : Nat} {g : Goroutine} (k0 : k ≠ 0) (h : Sit P z ty Post Wg T ch G Ts k d [] (some n) g w) : Sit P z ty' Post' Wg' T ch G Ts k d [] (some n) g w := by
  cases h with
  | ret h _ => exact absurd h k0
  | quit h h' => exact .quit h h'

theorem Net.again {ty' : TypeId × Bool} (L : Law K rank) (N : Net P z ty Post K a f T Ts gs w t) {g : Goroutine} {al : List Do} {Wg : Nat} (hsi : a.sc 0 = []) (hg : gs[0]? = some g) (hF : FollowM P z ty' Wg Post' al T a.ch a.G g w) (hK : K' (a.again Wg al)) :
    ∃ f', Net P z ty' Post' K' (a.again Wg al) f' T Ts gs w t := by
  have hpos := L.pos a N.k
  have hlast := L.last a N.k hsi
  obtain ⟨n0, h0⟩ := sit_of_NN (P := P) (z := z) (ty := ty') (Post := Post') (Wg := Wg) (T := T) (ch := a.ch) (G := a.G) (Ts := Ts) (i := 0) (d := a.df 0) (g := g) (w := w) (show NN P z ty' Post' Wg T a.ch a.G Ts 0 (a.df 0) al g w by simpa [NN] using hF)
  have hf : ∀ j, j ≠ 0 → j < a.n → f j ≠ none := by
    intro j j0 hj hn
    obtain ⟨x, hx, hs⟩ := N.sit j hj
    rw [hn, (hlast j hj j0).1] at hs
    cases hs
  refine ⟨put f 0 (some n0), hK, N.size, fun j hj => ?_, fun c hc => ?_, fun ho => (by cases ho), N.ckch, N.sub, N.apart, N.offG, N.tsz, N.tsk, fun j p ds hj hfj hsj => ?_, fun i j p c v v2 ds bs hi hj hfi hfj => ?_, N.tr.again ⟨hpos, hlast, L.fin a N.k hsi⟩ Wg al⟩
  · by_cases j0 : j = 0
    · subst j0
      refine ⟨g, hg, ?_⟩
      have e : (a.again Wg al).sc 0 = al := by simp [Abs.again, put]
      rw [e]
      simp only [put, if_true]
      exact h0
    · obtain ⟨x, hx, hs⟩ := N.sit j hj
      refine ⟨x, hx, ?_⟩
      have e : (a.again Wg al).sc j = [] := by simp [Abs.again, put, j0, (hlast j hj j0).1]
      rw [e]
      simp only [put, j0, if_false]
      rw [(hlast j hj j0).1] at hs
      cases hfj : f j with
      | none => exact absurd hfj (hf j j0 hj)
      | some m => rw [hfj] at hs; exact hs.post j0
  · obtain ⟨s, r, tm, h⟩ := N.chan c hc
    have hc' : c ∈ a.ck := hc
    exact ⟨s, r, tm, by rw [h]; simp [Abs.again, hc']⟩
  · by_cases j0 : j = 0
    · subst j0; simp [put] at hfj
    · simp only [put, j0, if_false] at hfj; exact absurd hfj (hf j j0 hj)
  · by_cases j0 : i = 0
    · subst j0; simp [put] at hfi
    · simp only [put, j0, if_false] at hfi; exact absurd hfi (hf i j0 hi)

end

/-- What a run has come to: goroutine 0 stands at a stop, all others have ended (or are leaving). -/
structure Came (P : Program) (z : Nat → Value) (Post : List Nat → List Nat → List Nat → Goroutine → World → Prop) (m₀ : Machine) (t₀ : Trace) : Prop where
  out : ∃ (ty : TypeId × Bool) (K : Abs → Prop) (rank : Abs → Nat) (n : Nat) (a : Abs) (f : Nat → Option Nat) (T : List Nat) (Ts : Nat → List Nat) (gs : Array Goroutine) (w : World) (sl : Option (Nat × Nat)) (t : Trace) (g : Goroutine),
    Law K rank ∧ runNT P n m₀ t₀ = (.next (crowd gs w sl), t) ∧ Net P z ty Post K a f T Ts gs w t ∧ a.sc 0 = [] ∧ gs[0]? = some g ∧ ∀ w₁, RC ty a.wg a.ch w w₁ → AtEnd Post T a.ch a.G g w₁

/-- Nobody has anything to do. -/
def KIdle (a : Abs) : Prop := a.Rest ∧ a.sc 0 = []
theorem kidle_nil {a : Abs} (h : KIdle a) {i : Nat} (hi : i < a.n) : a.sc i = [] := by
  by_cases h0 : i = 0
  · subst h0; exact h.2
  · exact (h.1.ended i hi h0).1
theorem kidle_law : Law KIdle (fun _ => 0) where
  pos _ h := h.1.pos
  pass _ _ _ _ _ _ _ _ _ h hi _ hs _ _ := by rw [kidle_nil h hi] at hs; cases hs
  noEof _ _ _ _ _ _ _ _ h hi _ hs _ := by rw [kidle_nil h hi] at hs; cases hs
  giveOpen _ _ _ _ _ _ h hi hs _ := by rw [kidle_nil h hi] at hs; cases hs
  rcvOpen _ _ _ _ _ h hi hs := by rw [kidle_nil h hi] at hs; cases hs
  eofIn _ _ _ _ h hi hs := by rw [kidle_nil h hi] at hs; cases hs
  giveOne _ _ _ _ _ _ _ _ _ _ h hi _ hs _ _ _ := by rw [kidle_nil h hi] at hs; cases hs
  rcvOne _ _ _ _ _ _ _ _ h hi _ hs _ := by rw [kidle_nil h hi] at hs; cases hs
  rcvEof _ _ _ _ _ _ _ h hi _ hs := by rw [kidle_nil h hi] at hs; cases hs
  sel _ _ _ _ _ _ _ h hi hs := by rw [kidle_nil h hi] at hs; cases hs
  eof _ _ _ _ h hi hs _ := by rw [kidle_nil h hi] at hs; cases hs
  cls _ _ _ _ h hi hs := by rw [kidle_nil h hi] at hs; cases hs
  fork _ _ _ _ _ _ h hi hs := by rw [kidle_nil h hi] at hs; cases hs
  mkg _ _ _ h hi hs := by rw [kidle_nil h hi] at hs; cases hs
  mkc _ _ _ _ h hi hs := by rw [kidle_nil h hi] at hs; cases hs
  say _ _ _ _ h hi hs := by rw [kidle_nil h hi] at hs; cases hs
  inc _ _ _ h hi hs := by rw [kidle_nil h hi] at hs; cases hs
  dec _ _ _ _ h hi hs := by rw [kidle_nil h hi] at hs; cases hs
  ldl _ _ _ h hi hs := by rw [kidle_nil h hi] at hs; cases hs
  clr _ _ _ h hi hs := by rw [kidle_nil h hi] at hs; cases hs
  rls _ _ _ h hi hs := by rw [kidle_nil h hi] at hs; cases hs
  wld _ _ _ _ h hi hs := by rw [kidle_nil h hi] at hs; cases hs
  cas _ _ _ _ _ h hi hs := by rw [kidle_nil h hi] at hs; cases hs
  acs _ _ _ h hi hs := by rw [kidle_nil h hi] at hs; cases hs
  wl4 _ _ _ h hi hs := by rw [kidle_nil h hi] at hs; cases hs
  quit a i d h hi i0 hs := ⟨⟨⟨h.1.pos, h.1.ended, by simp only [put]; rw [if_neg (fun e => i0 e.symm)]; exact h.1.df0⟩, h.2⟩, rfl⟩
  unrel _ _ _ _ h hi hs _ := by rw [kidle_nil h hi] at hs; cases hs
  live _ h := ⟨0, h.1.pos, .inl ⟨rfl, h.2⟩⟩
  fin _ h _ := h.1.df0
  last _ h _ := h.1.ended

section
variable {P : Program} {z : Nat → Value} {Post Post' : List Nat → List Nat → List Nat → Goroutine → World → Prop} {m₀ : Machine} {t₀ : Trace}

/-- ON BY A NET. -/
theorem Came.phase (h : Came P z Post m₀ t₀) (go : ∀ (a : Abs) T g w, a.Rest → (∀ b, b ∈ T ∨ b ∈ a.ch ∨ b ∈ a.G → b < w.heap.size) → (∀ c, c ∈ a.ck → c ∈ a.ch) → AtEnd Post T a.ch a.G g w →
      ∃ (ty : TypeId × Bool) (K' : Abs → Prop) (rank' : Abs → Nat) (al : List Do), Law K' rank' ∧ FollowM P z ty w.heap.size Post' al T a.ch a.G g w ∧ K' (a.again w.heap.size al)) : Came P z Post' m₀ t₀ := by
  obtain ⟨ty, K, rank, n, a, f, T, Ts, gs, w, sl, t, g, L, hrun, N, hsi, hg, hend⟩ := h.out
  obtain ⟨ty', K', rank', al, L', hF, hK'⟩ := go a T g w ⟨L.pos a N.k, L.last a N.k hsi, L.fin a N.k hsi⟩ N.tsz N.ckch (hend w (RC.refl _ _))
  obtain ⟨f', N'⟩ := N.again L hsi hg hF hK'
  obtain ⟨n', a', f'', T', Ts', gs', w', sl', t', g', h1, h2, h3, h4, h5⟩ := net_to L' _ N' sl rfl
  exact ⟨ty', K', rank', n + n', a', f'', T', Ts', gs', w', sl', t', g', L', by rw [runNT_add, hrun]; exact h1, h2, h3, h4, h5⟩

/-- ON BY A STRETCH WITHOUT A go STATEMENT. -/
theorem Came.walk (h : Came P z Post m₀ t₀) (go : ∀ T ch G g w, (∀ b, b ∈ T ∨ b ∈ ch ∨ b ∈ G → b < w.heap.size) → AtEnd Post T ch G g w → FollowM P z (0, false) w.heap.size Post' [] T ch G g w) : Came P z Post' m₀ t₀ :=
  h.phase fun a T g w R hsz _ hend => ⟨(0, false), KIdle, fun _ => 0, [], kidle_law, go T a.ch a.G g w hsz hend, ⟨⟨R.pos, fun j hj j0 => ⟨by simp [Abs.again, put, j0, (R.ended j hj j0).1], (R.ended j hj j0).2⟩, R.df0⟩, by simp [Abs.again, put]⟩⟩

/-- THE BEGINNING: one goroutine, no trace. -/
theorem came_start {g : Goroutine} {w : World} (hF : FollowM P z (0, false) 0 Post [] [] [] [] g w) : Came P z Post (solo g w) #[] := by
  rw [FollowM] at hF
  obtain ⟨n0, h0⟩ := hF
  let a : Abs := { n := 1, sc := fun _ => [], ch := [], ck := [], shut := fun _ => false, kn := fun _ => [], kc := fun _ => [], df := fun _ => 0, wg := 0, on := false, v := 0, wt := 0, sm := 0, rel := fun _ => false, G := [] }
  have hK : KIdle a := ⟨⟨Nat.zero_lt_one, fun j hj j0 => by simp only [a] at hj; omega, rfl⟩, rfl⟩
  have hct : CT (ShG []) NoOwn (RdT fun _ => []) #[] (a.n - 1) := CT.lone (fun op h => by simp at h) (fun op h => by simp at h)
  have N : Net P z (0, false) Post KIdle a (fun _ => some n0) [] (fun _ => []) #[g] w #[] :=
    ⟨hK, rfl, fun i hi => ⟨g, by have : i = 0 := by simp only [a] at hi; omega
                                 subst this; rfl, .ret (by simp only [a] at hi; omega) h0⟩, fun c hc => (by cases hc), fun ho => (by cases ho), fun c hc => (by cases hc), fun i _ _ b hb => (by cases hb), fun c hc => (by cases hc), fun k b hb => (by cases hb), fun b hb => (by rcases hb with hb | hb | hb <;> cases hb), fun k b hb => (by cases hb),
      fun i p ds _ hf _ => (by cases hf), fun i j p c v v2 ds bs _ _ hf => (by cases hf),
      ⟨hct, fun g _ => rfl, fun i op x ad h => (by simp at h), fun ad i h => (by simp [Trace.act?] at h), fun i j _ hj => (by cases hj), fun c hc => (by cases hc), fun j _ hr => (by cases hr)⟩⟩
  obtain ⟨n', a', f', T', Ts', gs', w', sl', t', g', h1, h2, h3, h4, h5⟩ := net_to kidle_law _ N none rfl
  exact ⟨(0, false), KIdle, fun _ => 0, n', a', f', T', Ts', gs', w', sl', t', g', kidle_law, h1, h2, h3, h4, h5⟩

/-- THE END. -/
theorem Came.good {Q : Value → World → Prop} (h : Came P z (AtRet P Q) m₀ t₀) : ∃ n last o w' t', runNT P (n + 1) m₀ t₀ = (.ended o w', t') ∧ runN P n m₀ = .next last ∧ step P last = .ended o w' ∧ Go.Conc.Good P Q last o w' t' := by
  obtain ⟨ty, K, rank, n, a, f, T, Ts, gs, w, sl, t, g, L, hrun, N, hsi, hg, hend⟩ := h.out
  obtain ⟨n', last, o, w', t', h1, h2, h3, h4⟩ := net_end L _ N sl g rfl hsi hg hend
  refine ⟨n + n', last, o, w', t', ?_, ?_, h3, h4⟩
  · rw [Nat.add_assoc, runNT_add, hrun]; exact h1
  · rw [runN_add, ← runNT_fst P n _ t₀, hrun]; exact h2
end
end Go.Proofs.Ytplndihadjfliaa.Mix
/-
  A STAR OF GOROUTINES (crew.Merge): its abstract net. Definitions, heads of scripts.
-/
set_option linter.unusedSimpArgs false
set_option linter.unusedVariables false
namespace Go.Proofs.Ytplndihadjfliaa.Mix
open Go Go.Conc Go.ConcN
open Go.ConcR (KK wgBlock WgAt stA smA)

/-- A worker: it has still to hand on l; or q of the acts of its end are done. -/
inductive WS where
  | live (l : List Value)
  | past (q : Nat)
/-- Goroutine 0. -/
inductive MS where
  | mg | mc
  | fk (sub : Nat)
  | ca
  | wl (k : Nat)
  | cs (vs k : Nat)
  | ac | w4 | en | aq | nd

def sels (s c : Nat) : List Value → List Pr
  | [] => []
  | v :: l => .sel c v s l.length :: sels s c l
def tailW (Wg c : Nat) : List Pr := [.cls c, .say (.releaseMerge (stA Wg)), .say .disable, .dec 3, .ldl, .clr, .rls]
def kidS (s Wg c : Nat) (l : List Value) : List Pr := sels s c l ++ tailW Wg c
def wscr (s Wg c : Nat) : WS → List Pr
  | .live l => kidS s Wg c l
  | .past q => (tailW Wg c).drop q
theorem sels_length (s c : Nat) (l : List Value) : (sels s c l).length = l.length := by
  induction l with
  | nil => rfl
  | cons v l ih => simp [sels, ih]
theorem kidS_drop (s Wg c : Nat) (l : List Value) : (kidS s Wg c l).drop l.length = tailW Wg c := by
  unfold kidS
  rw [← sels_length s c l, List.drop_left]

def trn (c : Nat → Nat) (ts : List (Nat × Option Value)) : List Do := ts.map fun x => match x.2 with | some v => .pr (.rcv (c x.1) v) | none => .pr (.eof (c x.1))
def endX (Wg : Nat) : List Do := [.pr (.say .enable), .pr (.say (.acquire (stA Wg)))]
def cloS (s Wg M : Nat) : List Do := .pr (.cls s) :: .pr (.say .disable) :: .pr (.wld M) :: endX Wg
def fks (s Wg M : Nat) (c : Nat → Nat) (Tb : Nat → List Nat) (l0 : Nat → List Value) : Nat → List Do
  | 0 => []
  | r + 1 => .pr (.say .disable) :: .pr .inc :: .pr (.say .enable) :: .fork (Tb (M - (r + 1))) [c (M - (r + 1))] (kidS s Wg (c (M - (r + 1))) (l0 (M - (r + 1)))) :: fks s Wg M c Tb l0 r

section
variable (b s Wg M : Nat) (c : Nat → Nat) (Tb : Nat → List Nat) (l0 : Nat → List Value)

def msc (m : Nat) (ts : List (Nat × Option Value)) : MS → List Do
  | .mg => .mkg :: .mkc s :: (fks s Wg M c Tb l0 (M - m) ++ (trn c ts ++ cloS s Wg M))
  | .mc => .mkc s :: (fks s Wg M c Tb l0 (M - m) ++ (trn c ts ++ cloS s Wg M))
  | .fk sub => (fks s Wg M c Tb l0 (M - m)).drop sub ++ (trn c ts ++ cloS s Wg M)
  | .ca => .pr (.say .disable) :: .pr (.wld M) :: endX Wg
  | .wl k => .pr (.wld k) :: endX Wg
  | .cs vs k => .pr (.cas vs k) :: endX Wg
  | .ac => .pr .acs :: .pr .wl4 :: endX Wg
  | .w4 => .pr .wl4 :: endX Wg
  | .en => endX Wg
  | .aq => [.pr (.say (.acquire (stA Wg)))]
  | .nd => []

def okT : (Nat → List Value) → List (Nat × Option Value) → Prop
  | _, [] => True
  | e, (p, some v) :: r => p < M ∧ ∃ l, e p = v :: l ∧ okT (put e p l) r
  | e, (p, none) :: r => p < M ∧ e p = [] ∧ okT e r
end

def rem : WS → List Value
  | .live l => l
  | .past _ => []
def isPast : WS → Bool
  | .live _ => false
  | .past _ => true
def cnt : WS → Nat
  | .live _ => 1
  | .past q => if q ≤ 3 then 1 else 0
def easy : WS → Prop
  | .live _ => True
  | .past q => q ≤ 3 ∨ q = 7
def dws : WS → Nat
  | .live _ => 0
  | .past q => if q ≤ 2 then 0 else 1
def rws : WS → Bool
  | .live _ => false
  | .past q => decide (2 ≤ q)
def dms : MS → Nat
  | .fk sub => if sub = 1 ∨ sub = 2 then 1 else 0
  | .wl _ | .cs _ _ | .ac | .w4 | .en => 1
  | _ => 0
def closed : MS → Bool
  | .mg | .mc | .fk _ => false
  | _ => true
def mcd : MS → Bool
  | .mg | .mc => false
  | _ => true
def VS (m : Nat) (ws : Nat → WS) : Nat := sumTo m fun p => cnt (ws p)

/-- How the group hangs on where everybody stands. -/
def Md (M m : Nat) (ws : Nat → WS) (ms : MS) (on : Bool) (v wt sm : Nat) : Prop :=
  match ms with
  | .mg => on = false ∧ m = 0
  | .mc => on = true ∧ m = 0 ∧ v = 0 ∧ wt = 0 ∧ sm = 0
  | .fk sub => on = true ∧ (∀ p, p < m → easy (ws p)) ∧ v = VS m ws + (if 2 ≤ sub then 1 else 0) ∧ wt = 0 ∧ sm = 0 ∧ (sub = 0 ∨ (sub < 4 ∧ m < M))
  | .ca => on = true ∧ (∀ p, p < m → easy (ws p)) ∧ v = VS m ws ∧ wt = 0 ∧ sm = 0
  | .wl k => on = true ∧ (∀ p, p < m → easy (ws p)) ∧ v = VS m ws ∧ wt = 0 ∧ sm = 0 ∧ VS m ws ≤ k
  | .cs vs k => on = true ∧ (∀ p, p < m → easy (ws p)) ∧ v = VS m ws ∧ wt = 0 ∧ sm = 0 ∧ VS m ws ≤ vs ∧ 1 ≤ vs ∧ vs ≤ k
  | .ac => on = true ∧ (((∀ p, p < m → easy (ws p)) ∧ 1 ≤ VS m ws ∧ v = VS m ws ∧ wt = 1 ∧ sm = 0) ∨
      (∃ L q, L < m ∧ ws L = .past q ∧ 4 ≤ q ∧ q ≤ 6 ∧ (∀ p, p < m → p ≠ L → ws p = .past 7) ∧ v = 0 ∧ wt = (if q = 6 then 0 else 1) ∧ sm = 0) ∨ ((∀ p, p < m → ws p = .past 7) ∧ v = 0 ∧ wt = 0 ∧ sm = 1))
  | _ => on = true ∧ (∀ p, p < m → ws p = .past 7) ∧ v = 0 ∧ wt = 0 ∧ sm = 0

section
variable (b s Wg M : Nat) (c : Nat → Nat) (Tb : Nat → List Nat) (l0 : Nat → List Value)

structure Star (a : Abs) (ws : Nat → WS) (ms : MS) (m : Nat) (ts : List (Nat × Option Value)) : Prop where
  b0 : 0 < b
  M1 : M < 2147483647
  inj : ∀ p q, p < M → q < M → c p = c q → p = q
  cs : ∀ p, p < M → c p ≠ s
  wg : a.wg = Wg
  nn : a.n = b + m
  mM : m ≤ M
  s0 : a.sc 0 = msc s Wg M c Tb l0 m ts ms
  sw : ∀ p, p < m → a.sc (b + p) = (wscr s Wg (c p) (ws p)).map .pr
  old : ∀ j, j ≠ 0 → j < b → a.sc j = [] ∧ j ∈ a.kn 0
  fresh : ∀ p, m ≤ p → p < M → ws p = .live (l0 p)
  q7 : ∀ p q, p < m → ws p = .past q → 1 ≤ q ∧ q ≤ 7
  ckc : ∀ p, p < m → c p ∈ a.ck
  shc : ∀ p, p < M → a.shut (c p) = isPast (ws p)
  cks : mcd ms = true → s ∈ a.ck
  shs : a.shut s = closed ms
  d0 : a.df 0 = dms ms
  dw : ∀ p, p < m → ws p ≠ .past 7 → a.df (b + p) = dws (ws p)
  rl : ∀ p, p < m → a.rel (b + p) = rws (ws p)
  r0 : a.rel 0 = false
  md : Md M m ws ms a.on a.v a.wt a.sm
  kn : ms = .nd → ∀ p, p < m → b + p ∈ a.kn 0

/-- WHAT STANDS AT THE HEAD OF A SCRIPT. -/
inductive HD (ws : Nat → WS) (ms : MS) (m : Nat) (ts : List (Nat × Option Value)) : Nat → Do → List Do → Prop
  | mg : ms = .mg → HD ws ms m ts 0 .mkg (msc s Wg M c Tb l0 m ts .mc)
  | mc : ms = .mc → HD ws ms m ts 0 (.mkc s) (msc s Wg M c Tb l0 m ts (.fk 0))
  | f0 : ms = .fk 0 → m < M → HD ws ms m ts 0 (.pr (.say .disable)) (msc s Wg M c Tb l0 m ts (.fk 1))
  | f1 : ms = .fk 1 → m < M → HD ws ms m ts 0 (.pr .inc) (msc s Wg M c Tb l0 m ts (.fk 2))
  | f2 : ms = .fk 2 → m < M → HD ws ms m ts 0 (.pr (.say .enable)) (msc s Wg M c Tb l0 m ts (.fk 3))
  | f3 : ms = .fk 3 → m < M → HD ws ms m ts 0 (.fork (Tb m) [c m] (kidS s Wg (c m) (l0 m))) (msc s Wg M c Tb l0 (m + 1) ts (.fk 0))
  | rcv {p : Nat} {v : Value} {r : List (Nat × Option Value)} : ms = .fk 0 → m = M → ts = (p, some v) :: r → HD ws ms m ts 0 (.pr (.rcv (c p) v)) (msc s Wg M c Tb l0 m r (.fk 0))
  | eof {p : Nat} {r : List (Nat × Option Value)} : ms = .fk 0 → m = M → ts = (p, none) :: r → HD ws ms m ts 0 (.pr (.eof (c p))) (msc s Wg M c Tb l0 m r (.fk 0))
  | cls : ms = .fk 0 → m = M → ts = [] → HD ws ms m ts 0 (.pr (.cls s)) (msc s Wg M c Tb l0 m ts .ca)
  | ca : ms = .ca → HD ws ms m ts 0 (.pr (.say .disable)) (msc s Wg M c Tb l0 m ts (.wl M))
  | wl {k : Nat} : ms = .wl k → HD ws ms m ts 0 (.pr (.wld k)) (endX Wg)
  | cs {vs k : Nat} : ms = .cs vs k → HD ws ms m ts 0 (.pr (.cas vs k)) (endX Wg)
  | ac : ms = .ac → HD ws ms m ts 0 (.pr .acs) (msc s Wg M c Tb l0 m ts .w4)
  | w4 : ms = .w4 → HD ws ms m ts 0 (.pr .wl4) (msc s Wg M c Tb l0 m ts .en)
  | en : ms = .en → HD ws ms m ts 0 (.pr (.say .enable)) (msc s Wg M c Tb l0 m ts .aq)
  | aq : ms = .aq → HD ws ms m ts 0 (.pr (.say (.acquire (stA Wg)))) (msc s Wg M c Tb l0 m ts .nd)
  | sel {p : Nat} {v : Value} {l : List Value} : p < m → ws p = .live (v :: l) → HD ws ms m ts (b + p) (.pr (.sel (c p) v s l.length)) ((wscr s Wg (c p) (.live l)).map .pr)
  | wcl {p : Nat} : p < m → ws p = .live [] → HD ws ms m ts (b + p) (.pr (.cls (c p))) ((wscr s Wg (c p) (.past 1)).map .pr)
  | p1 {p : Nat} : p < m → ws p = .past 1 → HD ws ms m ts (b + p) (.pr (.say (.releaseMerge (stA Wg)))) ((wscr s Wg (c p) (.past 2)).map .pr)
  | p2 {p : Nat} : p < m → ws p = .past 2 → HD ws ms m ts (b + p) (.pr (.say .disable)) ((wscr s Wg (c p) (.past 3)).map .pr)
  | p3 {p : Nat} : p < m → ws p = .past 3 → HD ws ms m ts (b + p) (.pr (.dec 3)) ((wscr s Wg (c p) (.past 4)).map .pr)
  | p4 {p : Nat} : p < m → ws p = .past 4 → HD ws ms m ts (b + p) (.pr .ldl) ((wscr s Wg (c p) (.past 5)).map .pr)
  | p5 {p : Nat} : p < m → ws p = .past 5 → HD ws ms m ts (b + p) (.pr .clr) ((wscr s Wg (c p) (.past 6)).map .pr)
  | p6 {p : Nat} : p < m → ws p = .past 6 → HD ws ms m ts (b + p) (.pr .rls) ((wscr s Wg (c p) (.past 7)).map .pr)

theorem fks_step {m : Nat} (h : m < M) : fks s Wg M c Tb l0 (M - m) = .pr (.say .disable) :: .pr .inc :: .pr (.say .enable) :: .fork (Tb m) [c m] (kidS s Wg (c m) (l0 m)) :: fks s Wg M c Tb l0 (M - (m + 1)) := by
  have e : M - m = (M - (m + 1)) + 1 := by omega
  have e2 : M - ((M - (m + 1)) + 1) = m := by omega
  rw [e, fks, e2]

variable {b s Wg M c Tb l0} {a : Abs} {ws : Nat → WS} {ms : MS} {m : Nat} {ts : List (Nat × Option Value)}

theorem Star.who (h : Star b s Wg M c Tb l0 a ws ms m ts) {i : Nat} (hi : i < a.n) : i = 0 ∨ (i ≠ 0 ∧ i < b) ∨ ∃ p, p < m ∧ i = b + p := by
  rw [h.nn] at hi
  by_cases h0 : i = 0
  · exact .inl h0
  · by_cases h1 : i < b
    · exact .inr (.inl ⟨h0, h1⟩)
    · exact .inr (.inr ⟨i - b, by omega, by omega⟩)

theorem Star.head (h : Star b s Wg M c Tb l0 a ws ms m ts) {i : Nat} (hi : i < a.n) {x : Do} {al : List Do} (hs : a.sc i = x :: al) : HD b s Wg M c Tb l0 ws ms m ts i x al := by
  rcases h.who hi with rfl | ⟨h0, h1⟩ | ⟨p, hp, rfl⟩
  · rw [h.s0] at hs
    have hmd := h.md
    cases ms with
    | mg => simp only [msc, List.cons.injEq] at hs; obtain ⟨rfl, rfl⟩ := hs; exact .mg rfl
    | mc => simp only [msc, List.cons.injEq] at hs; obtain ⟨rfl, rfl⟩ := hs; exact .mc rfl
    | fk sub =>
      obtain ⟨_, _, _, _, _, hsub⟩ := hmd
      by_cases hm : m < M
      · have hf := fks_step s Wg M c Tb l0 hm
        match sub, hsub with
        | 0, _ =>
          simp only [msc, hf, List.drop_zero, List.cons_append, List.cons.injEq] at hs
          obtain ⟨rfl, rfl⟩ := hs
          have : msc s Wg M c Tb l0 m ts (.fk 1) = .pr .inc :: .pr (.say .enable) :: .fork (Tb m) [c m] (kidS s Wg (c m) (l0 m)) :: (fks s Wg M c Tb l0 (M - (m + 1)) ++ (trn c ts ++ cloS s Wg M)) := by simp only [msc, hf]; rfl
          rw [← this]; exact .f0 rfl hm
        | 1, _ =>
          simp only [msc, hf, List.drop_succ_cons, List.drop_zero, List.cons_append, List.cons.injEq] at hs
          obtain ⟨rfl, rfl⟩ := hs
          have : msc s Wg M c Tb l0 m ts (.fk 2) = .pr (.say .enable) :: .fork (Tb m) [c m] (kidS s Wg (c m) (l0 m)) :: (fks s Wg M c Tb l0 (M - (m + 1)) ++ (trn c ts ++ cloS s Wg M)) := by simp only [msc, hf]; rfl
          rw [← this]; exact .f1 rfl hm
        | 2, _ =>
          simp only [msc, hf, List.drop_succ_cons, List.drop_zero, List.cons_append, List.cons.injEq] at hs
          obtain ⟨rfl, rfl⟩ := hs
          have : msc s Wg M c Tb l0 m ts (.fk 3) = .fork (Tb m) [c m] (kidS s Wg (c m) (l0 m)) :: (fks s Wg M c Tb l0 (M - (m + 1)) ++ (trn c ts ++ cloS s Wg M)) := by simp only [msc, hf]; rfl
          rw [← this]; exact .f2 rfl hm
        | 3, _ =>
          simp only [msc, hf, List.drop_succ_cons, List.drop_zero, List.cons_append, List.cons.injEq] at hs
          obtain ⟨rfl, rfl⟩ := hs
          exact .f3 rfl hm
        | sub + 4, hsub => omega
      · have hmM : m = M := by have := h.mM; omega
        have h0 : sub = 0 := by rcases hsub with h | ⟨_, h⟩ <;> omega
        subst h0
        have hf : fks s Wg M c Tb l0 (M - m) = [] := by rw [show M - m = 0 by omega]; rfl
        have e : ∀ r, msc s Wg M c Tb l0 m r (.fk 0) = trn c r ++ cloS s Wg M := by intro r; simp only [msc, hf]; rfl
        rw [e] at hs
        cases ts with
        | nil =>
          simp only [trn, List.map_nil, List.nil_append, cloS, List.cons.injEq] at hs
          obtain ⟨rfl, rfl⟩ := hs
          exact .cls rfl hmM rfl
        | cons y r =>
          obtain ⟨p, o⟩ := y
          cases o with
          | none =>
            simp only [trn, List.map_cons, List.cons_append, List.cons.injEq] at hs
            obtain ⟨rfl, rfl⟩ := hs
            have := HD.eof (b := b) (s := s) (Wg := Wg) (M := M) (c := c) (Tb := Tb) (l0 := l0) (ws := ws) (ms := .fk 0) (m := m) (ts := (p, none) :: r) rfl hmM rfl
            rw [e] at this; exact this
          | some v =>
            simp only [trn, List.map_cons, List.cons_append, List.cons.injEq] at hs
            obtain ⟨rfl, rfl⟩ := hs
            have := HD.rcv (b := b) (s := s) (Wg := Wg) (M := M) (c := c) (Tb := Tb) (l0 := l0) (ws := ws) (ms := .fk 0) (m := m) (ts := (p, some v) :: r) rfl hmM rfl
            rw [e] at this; exact this
    | ca => simp only [msc, List.cons.injEq] at hs; obtain ⟨rfl, rfl⟩ := hs; exact .ca rfl
    | wl k => simp only [msc, List.cons.injEq] at hs; obtain ⟨rfl, rfl⟩ := hs; exact .wl rfl
    | cs vs k => simp only [msc, List.cons.injEq] at hs; obtain ⟨rfl, rfl⟩ := hs; exact .cs rfl
    | ac => simp only [msc, List.cons.injEq] at hs; obtain ⟨rfl, rfl⟩ := hs; exact .ac rfl
    | w4 => simp only [msc, List.cons.injEq] at hs; obtain ⟨rfl, rfl⟩ := hs; exact .w4 rfl
    | en => simp only [msc, endX, List.cons.injEq] at hs; obtain ⟨rfl, rfl⟩ := hs; exact .en rfl
    | aq => simp only [msc, List.cons.injEq] at hs; obtain ⟨rfl, rfl⟩ := hs; exact .aq rfl
    | nd => simp only [msc] at hs; cases hs
  · rw [(h.old i h0 h1).1] at hs; cases hs
  · rw [h.sw p hp] at hs
    cases hw : ws p with
    | live l =>
      rw [hw] at hs
      cases l with
      | nil => simp only [wscr, kidS, sels, tailW, List.nil_append, List.map_cons, List.cons.injEq] at hs; obtain ⟨rfl, rfl⟩ := hs; exact .wcl hp hw
      | cons v l => simp only [wscr, kidS, sels, List.cons_append, List.map_cons, List.cons.injEq] at hs; obtain ⟨rfl, rfl⟩ := hs; exact .sel hp hw
    | past q =>
      rw [hw] at hs
      obtain ⟨h1, h2⟩ := h.q7 p q hp hw
      match q, h1, h2, hw, hs with
      | 1, _, _, hw, hs => simp only [wscr, tailW, List.drop_succ_cons, List.drop_zero, List.map_cons, List.cons.injEq] at hs; obtain ⟨rfl, rfl⟩ := hs; exact .p1 hp hw
      | 2, _, _, hw, hs => simp only [wscr, tailW, List.drop_succ_cons, List.drop_zero, List.map_cons, List.cons.injEq] at hs; obtain ⟨rfl, rfl⟩ := hs; exact .p2 hp hw
      | 3, _, _, hw, hs => simp only [wscr, tailW, List.drop_succ_cons, List.drop_zero, List.map_cons, List.cons.injEq] at hs; obtain ⟨rfl, rfl⟩ := hs; exact .p3 hp hw
      | 4, _, _, hw, hs => simp only [wscr, tailW, List.drop_succ_cons, List.drop_zero, List.map_cons, List.cons.injEq] at hs; obtain ⟨rfl, rfl⟩ := hs; exact .p4 hp hw
      | 5, _, _, hw, hs => simp only [wscr, tailW, List.drop_succ_cons, List.drop_zero, List.map_cons, List.cons.injEq] at hs; obtain ⟨rfl, rfl⟩ := hs; exact .p5 hp hw
      | 6, _, _, hw, hs => simp only [wscr, tailW, List.drop_succ_cons, List.drop_zero, List.map_cons, List.map_nil, List.cons.injEq] at hs; obtain ⟨rfl, rfl⟩ := hs; exact .p6 hp hw
      | 7, _, _, hw, hs => simp [wscr, tailW] at hs
      | q + 8, _, h2, _, _ => omega

/-! ### the rank -/
def wtR : Do → Nat
  | .pr p => wtP p
  | .fork _ _ kid => wtPs kid + 1
  | .mkg => 1
  | .mkc _ => 1
def wtRs (l : List Do) : Nat := (l.map wtR).sum
theorem wtRs_cons (p : Do) (l : List Do) : wtRs (p :: l) = wtR p + wtRs l := by simp [wtRs]
theorem wtR_pos (p : Do) : 0 < wtR p := by
  cases p with
  | pr p => exact wtP_pos p
  | _ => simp [wtR]
theorem wtRs_tail (p : Do) (l : List Do) : wtRs l < wtRs (p :: l) := by rw [wtRs_cons]; have := wtR_pos p; omega
theorem wtRs_drop (k : Nat) (l : List Do) : wtRs (l.drop k) ≤ wtRs l := by
  induction k generalizing l with
  | zero => simp
  | succ k ih =>
    cases l with
    | nil => simp
    | cons p l => rw [wtRs_cons]; have := ih l; simp only [List.drop_succ_cons]; omega
theorem wtRs_map (ps : List Pr) : wtRs (ps.map .pr) = wtPs ps := by simp [wtRs, wtPs, Function.comp_def, wtR]
def rankS (a : Abs) : Nat := sumTo a.n fun i => wtRs (a.sc i)

theorem rank_put {a a' : Abs} {i : Nat} {al : List Do} (hn : a'.n = a.n) (hi : i < a.n) (hsc : a'.sc = put a.sc i al) (hl : wtRs al < wtRs (a.sc i)) : rankS a' < rankS a := by
  unfold rankS
  rw [hn, hsc]
  have h := sumTo_upd (j := a.n) a.sc al wtRs hi
  have e : (fun k => wtRs (put a.sc i al k)) = fun k => wtRs (upd a.sc i al k) := rfl
  rw [e]
  omega
theorem rank_put2 {a a' : Abs} {i j : Nat} {al bs : List Do} (hn : a'.n = a.n) (hi : i < a.n) (hj : j < a.n) (hij : i ≠ j) (hsc : a'.sc = put (put a.sc i al) j bs) (hl : wtRs al < wtRs (a.sc i)) (hl' : wtRs bs < wtRs (a.sc j)) : rankS a' < rankS a := by
  have h1 : rankS (a.to i al) < rankS a := rank_put rfl hi rfl hl
  have h2 : rankS a' < rankS (a.to i al) := rank_put (a := a.to i al) hn hj hsc (by
    have : (a.to i al).sc j = a.sc j := put_ne _ _ (fun e => hij e.symm)
    rw [this]; exact hl')
  omega
theorem rank_fork {a : Abs} {T cs : List Nat} {kid : List Pr} {al : List Do} (h0 : 0 < a.n) (hs : a.sc 0 = .fork T cs kid :: al) : rankS (a.fork cs kid al) < rankS a := by
  unfold rankS
  have hn : (a.fork cs kid al).n = a.n + 1 := rfl
  rw [hn]
  show sumTo a.n (fun i => wtRs ((a.fork cs kid al).sc i)) + wtRs ((a.fork cs kid al).sc a.n) < _
  have e1 : (a.fork cs kid al).sc a.n = kid.map .pr := put_same _ _ _
  have e2 : sumTo a.n (fun i => wtRs ((a.fork cs kid al).sc i)) = sumTo a.n (fun k => wtRs (upd a.sc 0 al k)) := sumTo_congr fun i hi => by
    have : i ≠ a.n := by omega
    show wtRs (put (put a.sc 0 al) a.n (kid.map .pr) i) = _
    rw [put_ne _ _ this]; rfl
  rw [e1, e2, wtRs_map]
  have h := sumTo_upd (j := a.n) a.sc al wtRs h0
  rw [hs, wtRs_cons] at h
  simp only [wtR] at h
  omega
end
end Go.Proofs.Ytplndihadjfliaa.Mix
