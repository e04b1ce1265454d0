/-
  A NET OF GOROUTINES: the end; a call behind a call; the beginning.
-/
import Derived.Test.YtplndihadjfliaaM5
import Derived.Conc.CrowdRun
import Derived.Laws.OwnMore
set_option linter.unusedSimpArgs false
set_option linter.unusedVariables false
namespace Go.Proofs.Ytplndihadjfliaa.Net
open Go Go.Conc Go.ConcN

/-- Goroutine 0 stands at its return. -/
def AtRet (P : Program) (Q : Value → World → Prop) (T _ch : List Nat) (g : Goroutine) (w : World) : Prop := ∃ v es, stepG P true g w = .ended (.done v) w es ∧ (∀ e ∈ es, EvM T e) ∧ Q v w

section
variable {P : Program} {z : Nat → Value} {Post Post' : List Nat → List Nat → Goroutine → World → Prop} {K K' : Abs → Prop} {rank : Abs → Nat} {a : Abs} {f : Nat → Option Nat} {T : List Nat} {Ts : Nat → List Nat} {gs : Array Goroutine} {w : World} {t : Trace}

/-- WHERE GOROUTINE 0 STANDS AT ITS RETURN: whoever else is picked, it is picked in the end. -/
theorem net_end (L : Law K rank) {Q : Value → World → Prop} : ∀ (μ : Nat × Nat) {f : Nat → Option Nat} {gs : Array Goroutine} {w : World} {t : Trace} (N : Net P z Post K a f T Ts gs w t) (sl : Option (Nat × Nat)) (g : Goroutine), mu rank a f = μ → a.sc 0 = [] → gs[0]? = some g →
    (∀ w₁, RC a.ch w w₁ → AtEnd (AtRet P Q) T a.ch g w₁) → ∃ n last o w' t', runNT P (n + 1) (crowd gs w sl) t = (.ended o w', t') ∧ runN P n (crowd gs w sl) = .next last ∧ step P last = .ended o w' ∧ Go.Conc.Good P Q last o w' t' := by
  intro μ
  induction μ using (Prod.lex Nat.lt_wfRel Nat.lt_wfRel).wf.induction with
  | _ μ ih =>
  intro f gs w t N sl g hμ hsi hg hend
  have hrun0 : g.status = .running := (hend w (RC.refl _ _)).1
  obtain ⟨i, x, d, sl', hx, hrun, hst⟩ := crowd_pick (P := P) (w := w) (sl := sl) N.awake ⟨0, g, hg, hrun0⟩
  have hi : i < a.n := by rw [← N.size]; exact (Array.getElem?_eq_some_iff.1 hx).1
  by_cases h0 : i = 0
  · subst h0
    rw [hg] at hx
    obtain rfl := Option.some.inj hx
    obtain ⟨_, v, es, hstep, hes, hQ⟩ := hend (w.at d) (RC.at _ _ d)
    obtain ⟨o, w', ops, h1, h2⟩ := N.good L (Q := Q) (sl := sl) (sl' := sl') hg hsi hstep hes hQ
    have hT : stepT P (crowd gs w sl) = (.ended o w', ops) := hst.trans h1
    refine ⟨0, crowd gs w sl, o, w', t ++ ops, ?_, rfl, ?_, h2⟩
    · simp [runNT, hT]
    · show (stepT P _).1 = _
      rw [hT]
  · obtain ⟨y, hy, hs⟩ := N.sit i hi
    rw [hx] at hy
    obtain rfl := Option.some.inj hy
    have hlast := (L.last a N.k hsi i hi h0).1
    rw [hlast] at hs
    generalize hfi : f i = fi at hs
    cases hs with
    | ret h _ => exact absurd h h0
    | quit h1 h =>
      rename_i n
      cases n with
      | zero => rw [show x.status = .finished from h] at hrun; cases hrun
      | succ n =>
        rcases h with h | ⟨_, x', hgo, hq⟩
        · rw [h] at hrun; cases hrun
        · have hb : (i == 0) = false := by simpa using h0
          obtain ⟨gs', f', h1, h2, h3, h4⟩ := N.own L hi hx hfi (Nat.lt_succ_self n) (sl := sl') (d := d) (by rw [hb]; exact hgo _) (fun j _ _ => RR.refl _ _) (fun c _ => rfl) (by rw [hlast]; exact .quit h0 hq) (by
            have : MemOp.ofEvents i x.frame.fn x.frame.place #[] = #[] := by rw [ofEvents_eq]; simp
            rw [this, Array.append_empty]; exact N.tr)
          obtain ⟨n', last, o, w', t', r1, r2, r3, r4⟩ := ih _ (hμ ▸ h2) h3 sl' g rfl hsi (h4 0 g (fun e => h0 e.symm) hg) fun w₁ h₁ => hend w₁ ((RC.at _ _ d).trans h₁)
          have hT := hst.trans h1
          refine ⟨n' + 1, last, o, w', t', ?_, ?_, r3, r4⟩
          · rw [runNT_succ_next hT]; exact r1
          · rw [Nat.add_comm, runN_add, ← runNT_fst P 1 _ t]
            simp only [runNT, hT]
            exact r2

/-! ### a call behind a call -/
/-- Goroutine 0 has a new script; all others have ended. -/
def Abs.again (a : Abs) (al : List Do) : Abs := { a with sc := put a.sc 0 al, shut := fun c => decide (c ∈ a.ch) && a.shut c }

theorem Tr.again (h : Tr Ts a t) (al : List Do) : Tr Ts (a.again al) t := by
  have hs : ∀ j, j ≠ 0 → a.sc j = [] → (a.again al).sc j = [] := fun j h0 hj => by simp [Abs.again, put, h0, hj]
  refine ⟨h.wl, h.ct, fun i j hi hj => ?_, fun c hc => ?_⟩
  · obtain ⟨x1, x2, x3, x4⟩ := h.kn i j hi hj
    exact ⟨x1, x2, hs _ x1 x3, x4⟩
  · have hc : a.shut c = true := by simp only [Abs.again, Bool.and_eq_true] at hc; exact hc.2
    obtain ⟨pc, op, y1, y2, y3⟩ := h.kc c hc
    exact ⟨pc, op, y1, y2, fun j hj => let ⟨x1, x2, x3, x4⟩ := y3 j hj; ⟨x1, x2, hs _ x1 x3, x4⟩⟩

theorem Sit.post {ch : List Nat} {k n : Nat} {g : Goroutine} (k0 : k ≠ 0) (h : Sit P z Post T ch Ts k [] (some n) g w) : Sit P z Post' T ch Ts k [] (some n) g w := by
  cases h with
  | ret h _ => exact absurd h k0
  | quit h h' => exact .quit h h'

theorem Net.again (L : Law K rank) (N : Net P z Post K a f T Ts gs w t) {g : Goroutine} {al : List Do} (hsi : a.sc 0 = []) (hg : gs[0]? = some g) (hF : FollowM P z Post' al T a.ch g w) (hK : K' (a.again al)) :
    ∃ f', Net P z Post' K' (a.again al) f' T Ts gs w t := by
  have hpos := L.pos a N.k
  have hlast := L.last a N.k hsi
  obtain ⟨n0, h0⟩ := sit_of_NN (P := P) (z := z) (Post := Post') (T := T) (ch := a.ch) (Ts := Ts) (i := 0) (g := g) (w := w) (show NN P z Post' T a.ch Ts 0 al g w by simpa [NN] using hF)
  have hf : ∀ j, j ≠ 0 → j < a.n → f j ≠ none := by
    intro j j0 hj hn
    obtain ⟨x, hx, hs⟩ := N.sit j hj
    rw [hn, (hlast j hj j0).1] at hs
    cases hs
  refine ⟨put f 0 (some n0), hK, N.size, fun j hj => ?_, fun c hc => ?_, N.sub, N.apart, fun j c ds hj hfj hsj => ?_, fun i j c v v2 ds bs hi hj hfi hfj => ?_, N.tr.again al⟩
  · by_cases j0 : j = 0
    · subst j0
      refine ⟨g, hg, ?_⟩
      have e : (a.again al).sc 0 = al := by simp [Abs.again, put]
      rw [e]
      simp only [put, if_true]
      exact h0
    · obtain ⟨x, hx, hs⟩ := N.sit j hj
      refine ⟨x, hx, ?_⟩
      have e : (a.again al).sc j = [] := by simp [Abs.again, put, j0, (hlast j hj j0).1]
      rw [e]
      simp only [put, j0, if_false]
      rw [(hlast j hj j0).1] at hs
      cases hfj : f j with
      | none => exact absurd hfj (hf j j0 hj)
      | some m => rw [hfj] at hs; exact hs.post j0
  · obtain ⟨s, r, tm, h⟩ := N.chan c hc
    have hc' : c ∈ a.ch := hc
    exact ⟨s, r, tm, by rw [h]; simp [Abs.again, hc']⟩
  · by_cases j0 : j = 0
    · subst j0; simp [put] at hfj
    · simp only [put, j0, if_false] at hfj; exact absurd hfj (hf j j0 hj)
  · by_cases j0 : i = 0
    · subst j0; simp [put] at hfi
    · simp only [put, j0, if_false] at hfi; exact absurd hfi (hf i j0 hi)

end

/-- What a run has come to: goroutine 0 stands at a stop, all others have ended (or are leaving). -/
structure Came (P : Program) (z : Nat → Value) (Post : List Nat → List Nat → Goroutine → World → Prop) (m₀ : Machine) (t₀ : Trace) : Prop where
  out : ∃ (K : Abs → Prop) (n : Nat) (a : Abs) (f : Nat → Option Nat) (T : List Nat) (Ts : Nat → List Nat) (gs : Array Goroutine) (w : World) (sl : Option (Nat × Nat)) (t : Trace) (g : Goroutine),
    Law K rank ∧ runNT P n m₀ t₀ = (.next (crowd gs w sl), t) ∧ Net P z Post K a f T Ts gs w t ∧ a.sc 0 = [] ∧ gs[0]? = some g ∧ ∀ w₁, RC a.ch w w₁ → AtEnd Post T a.ch g w₁

/-- Nobody has anything to do. -/
def KIdle (a : Abs) : Prop := 0 < a.n ∧ ∀ j, j < a.n → a.sc j = [] ∧ (j ≠ 0 → j ∈ a.kn 0)
theorem kidle_law : Law KIdle rank where
  pos _ h := h.1
  pass _ _ _ _ _ _ _ _ h hi _ hs _ := by rw [(h.2 _ hi).1] at hs; cases hs
  noEof _ _ _ _ _ _ _ h hi _ hs := by rw [(h.2 _ hi).1] at hs; cases hs
  sndOpen _ _ _ _ _ h hi hs := by rw [(h.2 _ hi).1] at hs; cases hs
  rcvOpen _ _ _ _ _ h hi hs := by rw [(h.2 _ hi).1] at hs; cases hs
  eofIn _ _ _ _ h hi hs := by rw [(h.2 _ hi).1] at hs; cases hs
  sndOne _ _ _ _ _ _ _ _ h hi _ hs _ := by rw [(h.2 _ hi).1] at hs; cases hs
  rcvOne _ _ _ _ _ _ _ _ h hi _ hs _ := by rw [(h.2 _ hi).1] at hs; cases hs
  rcvEof _ _ _ _ _ _ _ h hi _ hs := by rw [(h.2 _ hi).1] at hs; cases hs
  eof _ _ _ _ h hi hs _ := by rw [(h.2 _ hi).1] at hs; cases hs
  cls _ _ _ _ h hi hs := by rw [(h.2 _ hi).1] at hs; cases hs
  fork _ _ _ _ _ _ h hi hs := by rw [(h.2 _ hi).1] at hs; cases hs
  live _ h := ⟨0, h.1, .inl ⟨rfl, (h.2 0 h.1).1⟩⟩
  last _ h _ j hj j0 := ⟨(h.2 j hj).1, (h.2 j hj).2 j0⟩

section
variable {P : Program} {z : Nat → Value} {Post Post' : List Nat → List Nat → Goroutine → World → Prop} {m₀ : Machine} {t₀ : Trace}

/-- ON BY A STRETCH WITHOUT A go STATEMENT. -/
theorem Came.walk (h : Came P z Post m₀ t₀) (go : ∀ T ch g w, AtEnd Post T ch g w → FollowM P z Post' [] T ch g w) : Came P z Post' m₀ t₀ := by
  obtain ⟨K, n, a, f, T, Ts, gs, w, sl, t, g, L, hrun, N, hsi, hg, hend⟩ := h.out
  have hlast := L.last a N.k hsi
  have hpos := L.pos a N.k
  obtain ⟨f', N'⟩ := N.again L hsi hg (Post' := Post') (K' := KIdle) (go T a.ch g w (hend w (RC.refl _ _))) ⟨hpos, fun j hj => by
    by_cases j0 : j = 0
    · subst j0; exact ⟨by simp [Abs.again, put], fun h => absurd rfl h⟩
    · exact ⟨by simp [Abs.again, put, j0, (hlast j hj j0).1], fun _ => (hlast j hj j0).2⟩⟩
  obtain ⟨n', a', f'', T', Ts', gs', w', sl', t', g', h1, h2, h3, h4, h5⟩ := net_to kidle_law _ N' sl rfl
  exact ⟨KIdle, n + n', a', f'', T', Ts', gs', w', sl', t', g', kidle_law, by rw [runNT_add, hrun]; exact h1, h2, h3, h4, h5⟩

/-- ON BY A ROW. -/
theorem Came.row (h : Came P z Post m₀ t₀) (go : ∀ T ch g w, AtEnd Post T ch g w → ∃ T' c0 vs l, FollowM P z Post' (.fork T' [c0] (src c0 vs) :: mains c0 vs l) T ch g w ∧ (c0 :: l.map (·.1)).Nodup ∧ ∀ c ∈ c0 :: l.map (·.1), c ∉ ch) : Came P z Post' m₀ t₀ := by
  obtain ⟨K, n, a, f, T, Ts, gs, w, sl, t, g, L, hrun, N, hsi, hg, hend⟩ := h.out
  have hlast := L.last a N.k hsi
  have hpos := L.pos a N.k
  obtain ⟨T', c0, vs, l, hF, hnd, hnew⟩ := go T a.ch g w (hend w (RC.refl _ _))
  obtain ⟨f', N'⟩ := N.again L hsi hg (Post' := Post') (K' := KRow a.n) hF (.start T' c0 vs l rfl hpos (fun j hj j0 => ⟨by simp [Abs.again, put, j0, (hlast j hj j0).1], (hlast j hj j0).2⟩)
    ⟨hnd, fun x hx => by
      have hx' : x.1 ∉ a.ch := by
        rcases List.mem_cons.1 hx with rfl | hx
        · exact hnew _ (by simp)
        · exact hnew _ (List.mem_cons_of_mem _ (List.mem_map_of_mem hx))
      exact ⟨hx', by simp [Abs.again, hx']⟩⟩ (by simp [Abs.again, put]))
  obtain ⟨n', a', f'', T'', Ts', gs', w', sl', t', g', h1, h2, h3, h4, h5⟩ := net_to (krow_law a.n) _ N' sl rfl
  exact ⟨_, n + n', a', f'', T'', Ts', gs', w', sl', t', g', krow_law a.n, by rw [runNT_add, hrun]; exact h1, h2, h3, h4, h5⟩

/-- THE BEGINNING: one goroutine, no trace. -/
theorem came_start {g : Goroutine} {w : World} (hF : FollowM P z Post [] [] [] g w) : Came P z Post (solo g w) #[] := by
  obtain ⟨n0, h0⟩ := hF
  let a : Abs := { n := 1, sc := fun _ => [], ch := [], shut := fun _ => false, kn := fun _ => [], kc := fun _ => [] }
  have hK : KIdle a := ⟨Nat.zero_lt_one, fun j hj => ⟨rfl, fun j0 => by simp only [a] at hj; omega⟩⟩
  have hq : ∀ (i : Nat) (op : MemOp), (#[] : Trace)[i]? = some op → False := fun i op h => by simp at h
  have hct : CT NoSh NoOwn (RdT fun _ => []) #[] (a.n - 1) := CT.lone (fun op h => by simp at h) (fun op h => by simp at h)
  have N : Net P z Post KIdle a (fun _ => some n0) [] (fun _ => []) #[g] w #[] :=
    ⟨hK, rfl, fun i hi => ⟨g, by have : i = 0 := by simp only [a] at hi; omega
                                 subst this; rfl, .ret (by simp only [a] at hi; omega) h0⟩, fun c hc => (by cases hc), fun i _ _ b hb => (by cases hb), fun c hc => (by cases hc), fun i c ds _ hf _ => (by cases hf), fun i j c v v2 ds bs _ _ hf => (by cases hf),
      ⟨fun op hop => (by simp at hop), hct, fun i j _ hj => (by cases hj), fun c hc => (by cases hc)⟩⟩
  obtain ⟨n', a', f', T', Ts', gs', w', sl', t', g', h1, h2, h3, h4, h5⟩ := net_to kidle_law _ N none rfl
  exact ⟨KIdle, n', a', f', T', Ts', gs', w', sl', t', g', kidle_law, h1, h2, h3, h4, h5⟩

/-- THE END. -/
theorem Came.good {Q : Value → World → Prop} (h : Came P z (AtRet P Q) m₀ t₀) : ∃ n last o w' t', runNT P (n + 1) m₀ t₀ = (.ended o w', t') ∧ runN P n m₀ = .next last ∧ step P last = .ended o w' ∧ Go.Conc.Good P Q last o w' t' := by
  obtain ⟨K, n, a, f, T, Ts, gs, w, sl, t, g, L, hrun, N, hsi, hg, hend⟩ := h.out
  obtain ⟨n', last, o, w', t', h1, h2, h3, h4⟩ := net_end L _ N sl g rfl hsi hg hend
  refine ⟨n + n', last, o, w', t', ?_, ?_, h3, h4⟩
  · rw [Nat.add_assoc, runNT_add, hrun]; exact h1
  · rw [runN_add, ← runNT_fst P n _ t₀, hrun]; exact h2
end
end Go.Proofs.Ytplndihadjfliaa.Net
/-
  CREW: the walk of CrewNames.
-/
set_option linter.unusedSimpArgs false
set_option linter.unusedVariables false
set_option maxHeartbeats 2000000
namespace Go.Proofs.Ytplndihadjfliaa.Net
open Go Go.Conc Go.ConcN Go.Proofs Go.RowKit

noncomputable def body3 : Code := Try.f3.body.getD .skip
noncomputable def tail3 : Code := match body3 with | .seq _ (.seq _ r) => r | _ => .skip
noncomputable def ops3 : Array Oper := match body3 with | .seq _ (.seq (.region _ ops _) _) => ops | _ => #[]

structure KN (N : Nat) (W w : World) : Prop where
  re : RE N W [] 2 w
  b1 : w.heap[N]? = some (.cells #[iv 1, iv 2] 3)
  b2 : w.heap[N + 1]? = some (.cells #[iv 10] 3)
structure KN1 (N : Nat) (W w : World) : Prop where
  re : RE N W [] 1 w
  b1 : w.heap[N]? = some (.cells #[iv 1, iv 2] 3)
theorem KN1.rely {N : Nat} {W w w₁ : World} (h : KN1 N W w) (r : RC [] w w₁) : KN1 N W w₁ := ⟨h.re.rely r, (r.block N (by simp)).trans h.b1⟩
theorem KN.rely {N : Nat} {W w w₁ : World} (h : KN N W w) (r : RC [] w w₁) : KN N W w₁ := ⟨h.re.rely r, (r.block N (by simp)).trans h.b1, (r.block (N + 1) (by simp)).trans h.b2⟩


section
variable (N : Nat) (W : World)
/-- The caller's activation at the call. -/
noncomputable def aC3 : Act := ⟨#[.bool false, undef, .slice (some ⟨N, 0, none⟩) 2 2, .slice (some ⟨N + 1, 0, none⟩) 1 1, undef, undef, undef, undef, undef, undef, undef, undef, undef, undef, undef, undef, undef, undef, undef, undef, undef, undef], []⟩

/-- Behind the call. -/
def Post3 (T ch : List Nat) (g : Goroutine) (w : World) : Prop :=
  ∃ out W1, KN N W W1 ∧ ch = chL (N + 2) [] 1 ∧ RK (N + 2) W1 [] (some ⟨N, 0, none⟩) 2 2 (some ⟨N + 1, 0, none⟩) 1 [10] (N + 2 + 3 + 1) out ((rowOut [1, 2] [10]).map iv) w ∧
    g = G ((base 3).at ((aC3 N).put ((ops3[2]?).bind (·.dst)) out) [.inRegion ops3 [3], .code tail3]) []

set_option maxRecDepth 100000 in
theorem cn_walk1 (w : World) (hF : RE N W [] 0 w) :
    ∃ n, Goes Try.prog true (RC []) (DM [] []) (stopM Try.prog zi (Post3 N W) (.fork (srcT (N + 2) (some ⟨N, 0, none⟩) 2) [N + 2 + 1] (src (N + 2 + 1) ([1, 2].map iv)) :: mains (N + 2 + 1) ([1, 2].map iv) (lst (N + 2) 0 [10])) [] []) n
      (G ((base 3).at ⟨#[undef, undef, undef, undef, undef, undef, undef, undef, undef, undef, undef, undef, undef, undef, undef, undef, undef, undef, undef, undef, undef, undef], []⟩ [.code body3]) []) w := by
  have hTl : ∀ b ∈ ([] : List Nat), b < 0 ∨ 0 = 0 := fun _ _ => .inr rfl
  have hcl : ∀ b ∈ ([] : List Nat), b < 0 ∨ 0 = 0 := fun _ _ => .inr rfl
  have key := fun (w : World) (hF : KN N W w) => relay_follows (N + 2) w [] (some ⟨N, 0, none⟩) 2 2 (some ⟨N + 1, 0, none⟩) 1 1 _ (Post := Post3 N W) [] (by simp) (by simp) (by omega) hF.re.sz [1, 2] [10] (by omega) rfl rfl (fun _ => ⟨_, rfl⟩) (fun _ => ⟨_, rfl⟩)
    (fun ad h _ => by cases h; exact ⟨by show N < N + 2; omega, by simp⟩) (fun ad h _ => by cases h; exact ⟨by show N + 1 < N + 2; omega, by simp⟩)
    (fun j ad hj h => by
      cases h
      match j, hj with
      | 0, _ => simp [Addr.add, World.cell?, hF.b1]
      | 1, _ => simp [Addr.add, World.cell?, hF.b1])
    (fun j ad hj h => by
      cases h
      match j, hj with
      | 0, _ => simp [Addr.add, World.cell?, hF.b2])
    (base 3) (aC3 N) ops3 2 [3] [.code tail3] [] rfl (fun out w' h => ⟨out, w, hF, rfl, h, rfl⟩)
  refine ⟨0 + 60 + 20, ?_⟩
  simp only [body3, Try.f3, Option.getD_some]
  (refine Goes.step rfl (fun _ h₁ => ?_); walk_rw; refine ⟨DM_of_below (B := 0) hTl hcl (Below.refl _ _) (by simp), ?_⟩; replace hF := hF.rely h₁; clear h₁)
  (refine Goes.step rfl (fun _ h₁ => ?_); walk_rw; refine ⟨DM_of_below (B := 0) hTl hcl (Below.refl _ _) (by simp), ?_⟩; replace hF := hF.rely h₁; clear h₁)
  (refine Goes.step rfl (fun w₁ h₁ => ?_); replace hF := hF.rely h₁; clear h₁; refine goes_oper_k rfl rfl (by decide) (fun K hK => ?_); go_simp; refine hK _ _ ⟨DM_of_below (B := 0) hTl hcl (Below.refl _ _) (fun e he => ?_), ?_⟩; (focus (have hm := mem_listed he; (simp [go_sem, *] at hm); (try (subst hm; exact evM_read _ _ (by simp))))); (clear hK K); (try walk_nrm))
  (refine Goes.step rfl (fun _ h₁ => ?_); walk_rw; refine ⟨DM_of_below (B := 0) hTl hcl (Below.refl _ _) (by simp), ?_⟩; replace hF := hF.rely h₁; clear h₁)
  (refine Goes.step rfl (fun _ h₁ => ?_); walk_rw; refine ⟨DM_of_below (B := 0) hTl hcl (Below.refl _ _) (by simp), ?_⟩; replace hF := hF.rely h₁; clear h₁)
  (refine Goes.step rfl (fun _ h₁ => ?_); walk_rw; refine ⟨DM_of_below (B := 0) hTl hcl (Below.refl _ _) (by simp), ?_⟩; replace hF := hF.rely h₁; clear h₁)
  refine Goes.step rfl (fun w₁ h₁ => ?_)
  replace hF := hF.rely h₁
  clear h₁
  refine goes_oper_k rfl rfl (by decide) (fun K hK => ?_)
  go_simp
  refine hK _ _ ⟨DM_of_below' (B := N) (by simp) (by simp) ((Below.refl _ _).alloc (by rw [hF.sz]; omega) _) (fun e he => ?_), ?_⟩
  · have hm := mem_listed he
    simp [go_sem] at hm
  clear hK K
  have esz := hF.sz
  have hF : KN1 N W (w₁.alloc (.cells #[iv 1, iv 2] 3)) := ⟨hF.alloc _, by have h0 := hF.sz; rw [Nat.add_zero] at h0; rw [← h0]; exact heap_alloc_new w₁ _⟩
  rw [esz, Nat.add_zero]
  clear esz
  refine Goes.step rfl (fun w₁ h₁ => ?_)
  replace hF := hF.rely h₁
  clear h₁
  refine goes_oper_k rfl rfl (by decide) (fun K hK => ?_)
  go_simp
  refine hK _ _ ⟨DM_of_below' (B := N) (by simp) (by simp) ((Below.refl _ _).alloc (by rw [hF.re.sz]; omega) _) (fun e he => ?_), ?_⟩
  · have hm := mem_listed he
    simp [go_sem] at hm
  clear hK K
  have esz := hF.re.sz
  have hF : KN N W (w₁.alloc (.cells #[iv 10] 3)) := ⟨hF.re.alloc _, by rw [Below.heap_alloc _ _ _ (by rw [hF.re.sz]; omega)]; exact hF.b1, by rw [← hF.re.sz]; exact heap_alloc_new w₁ _⟩
  rw [esz]
  clear esz
  refine Goes.step rfl (fun w₁ h₁ => ?_)
  replace hF := hF.rely h₁
  clear h₁
  refine goes_call (f := 8) (fn := Try.f8) (c := body8) rfl rfl (by decide) rfl Try.func8 (by simp [Try.f8]) (by simp [Try.f8, body8]) ⟨DM_of_below (B := 0) hTl hcl (Below.refl _ _) (by simp), ?_⟩
  have e1 : (#[.tmp 2, .tmp 3] : Array Operand).map (Act.eval ⟨#[.bool false, undef, .slice (some ⟨N, 0, none⟩) 2 2, .slice (some ⟨N + 1, 0, none⟩) 1 1, undef, undef, undef, undef, undef, undef, undef, undef, undef, undef, undef, undef, undef, undef, undef, undef, undef, undef], []⟩) = #[.slice (some ⟨N, 0, none⟩) 2 2, .slice (some ⟨N + 1, 0, none⟩) 1 1] := by simp [Act.eval]
  have e : (#[.slice (some ⟨N, 0, none⟩) 2 2, .slice (some ⟨N + 1, 0, none⟩) 1 1] : Array Value) ++ Array.replicate (Try.f8.ntmps - (#[.slice (some ⟨N, 0, none⟩) 2 2, .slice (some ⟨N + 1, 0, none⟩) 1 1] : Array Value).size) undef = #[.slice (some ⟨N, 0, none⟩) 2 2, .slice (some ⟨N + 1, 0, none⟩) 1 1, undef, undef, undef, undef, undef, undef, undef, undef, undef, undef, undef, undef, undef, undef, undef, undef, undef, undef, undef, undef, undef, undef, undef, undef, undef, undef, undef, undef, undef, undef, undef, undef, undef, undef, undef, undef, undef] := by simp only [Try.f8]; walk_nrm
  rw [e1, e]
  refine Goes.mono (n := 0 + 60) ?_ (by omega)
  exact key w₁ hF

set_option maxRecDepth 100000 in
/-- From behind the call to the return. -/
theorem cn_walk2 (hN : W.heap.size = N) (T ch : List Nat) (g : Goroutine) (w : World) (h : Post3 N W T ch g w) :
    ∃ n, Goes Try.prog true (RC ch) (DM T ch) (AtEnd (AtRet Try.prog fun v w' => v = .bool true ∧ Below N W w') T ch) n g w := by
  obtain ⟨out, W1, hW, rfl, hF, rfl⟩ := h
  have hcs : ∀ c ∈ chL (N + 2) [] 1, c ∈ ([] : List Nat) ∨ c = N + 2 + 1 ∨ (N + 2 + 3 ≤ c ∧ c < N + 2 + 3 + 1) := fun c hc => chL_mem hc
  have hTl : ∀ b ∈ T, b < 0 ∨ 0 = 0 := fun _ _ => .inr rfl
  have hcl : ∀ b ∈ chL (N + 2) [] 1, b < 0 ∨ 0 = 0 := fun _ _ => .inr rfl
  have hall : (rowOut [1, 2] [10]).map iv = [iv 11, iv 12] := by simp [rowOut, addI, IntKind.wrap_i64]
  rw [hall] at hF
  obtain ⟨g, cap, rfl⟩ : ∃ g cap, out = .slice (some ⟨g, 0, none⟩) 2 cap := by
    rcases hF.own.2 with ⟨_, h0⟩ | ⟨g, cap, cur, e, _⟩
    · simp at h0
    · exact ⟨g, cap, e⟩
  have c0 := fun (w : World) (hF : RK (N + 2) W1 [] (some ⟨N, 0, none⟩) 2 2 (some ⟨N + 1, 0, none⟩) 1 [10] (N + 2 + 3 + 1) (.slice (some ⟨g, 0, none⟩) 2 cap) [iv 11, iv 12] w) => (hF.own.cellAt 0 (by simp) : w.cell? ⟨g, 0, none⟩ = some (iv 11))
  have c1 := fun (w : World) (hF : RK (N + 2) W1 [] (some ⟨N, 0, none⟩) 2 2 (some ⟨N + 1, 0, none⟩) 1 [10] (N + 2 + 3 + 1) (.slice (some ⟨g, 0, none⟩) 2 cap) [iv 11, iv 12] w) => (hF.own.cellAt 1 (by simp) : w.cell? ⟨g, 1, none⟩ = some (iv 12))
  refine ⟨60, ?_⟩
  simp only [aC3, tail3, ops3, body3, Try.f3, Option.getD_some]
  try walk_nrm
  repeat (first | (refine Goes.step rfl (fun _ h₁ => ?_); walk_rw; refine ⟨DM_of_below (B := 0) hTl hcl (Below.refl _ _) (by simp), ?_⟩; replace hF := hF.rely hcs h₁; clear h₁) | (refine Goes.step rfl (fun w₁ h₁ => ?_); replace hF := hF.rely hcs h₁; clear h₁; refine goes_oper_k rfl rfl (by decide) (fun K hK => ?_); have hx0 := c0 _ hF; have hx1 := c1 _ hF; go_simp; refine hK _ _ ⟨DM_of_below (B := 0) hTl hcl (Below.refl _ _) (fun e he => ?_), ?_⟩; (focus (have hm := mem_listed he; (simp [go_sem, *] at hm); (try (subst hm; exact evM_read _ _ (by simp))))); (clear hK K hx0 hx1); (try walk_nrm)))
  refine Goes.stop fun w₂ h₂ => ⟨rfl, .bool true, #[], ?_, by simp, rfl, ?_⟩
  · simp [G, stepG, unwind, doReturn, results, Frame.at, base, Try.func3, Try.f3, seen, GStep.after]
  · replace hF := hF.rely hcs h₂
    have h1 := hW.re
    exact ⟨hF.os.trans h1.os, hF.tape.trans h1.tape, hF.output.trans h1.output, by have := hF.size; omega, fun b hb => (hF.old b (by omega) (by simp)).trans (h1.old b hb (by simp))⟩
end

theorem cn_enter : Frame.enter Try.prog 3 #[] .normal = (base 3).at ⟨#[undef, undef, undef, undef, undef, undef, undef, undef, undef, undef, undef, undef, undef, undef, undef, undef, undef, undef, undef, undef, undef, undef], []⟩ [.code body3] := by
  rw [enter_at (c := body3) #[] Try.func3 (by simp [Try.f3, body3])]
  have e : (#[] : Array Value) ++ Array.replicate (Try.f3.ntmps - (#[] : Array Value).size) undef = #[undef, undef, undef, undef, undef, undef, undef, undef, undef, undef, undef, undef, undef, undef, undef, undef, undef, undef, undef, undef, undef, undef] := by simp only [Try.f3]; walk_nrm
  rw [e]

/-- ONE GOOD RUN from every start. -/
theorem cn_runs (W : World) : ∃ M last o w' t', runNT Try.prog (M + 1) (solo (G (Frame.enter Try.prog 3 #[] .normal) []) W) #[] = (.ended o w', t') ∧ runN Try.prog M (solo (G (Frame.enter Try.prog 3 #[] .normal) []) W) = .next last ∧
    step Try.prog last = .ended o w' ∧ Go.Conc.Good Try.prog (fun v w' => v = .bool true ∧ Below W.heap.size W w') last o w' t' := by
  rw [cn_enter]
  have h0 : Came Try.prog zi (fun T ch g' w' => T = [] ∧ ch = [] ∧ g' = G ((base 3).at ⟨#[undef, undef, undef, undef, undef, undef, undef, undef, undef, undef, undef, undef, undef, undef, undef, undef, undef, undef, undef, undef, undef, undef], []⟩ [.code body3]) [] ∧ RE W.heap.size W [] 0 w') (solo (G ((base 3).at ⟨#[undef, undef, undef, undef, undef, undef, undef, undef, undef, undef, undef, undef, undef, undef, undef, undef, undef, undef, undef, undef, undef, undef], []⟩ [.code body3]) []) W) #[] :=
    came_start ⟨0, Goes.stop fun w₁ h₁ => ⟨rfl, rfl, rfl, rfl, RE.rely ⟨rfl, rfl, rfl, rfl, fun _ _ _ => rfl, by simp⟩ h₁⟩⟩
  have h1 := h0.row (Post' := Post3 W.heap.size W) fun T ch g w ⟨_, hT, hc, hg, hF⟩ => by
    subst hT hc hg
    exact ⟨_, _, _, _, followM_iff.2 (cn_walk1 W.heap.size W w hF), by simp [lst], by simp⟩
  have h2 := h1.walk (Post' := AtRet Try.prog fun v w' => v = .bool true ∧ Below W.heap.size W w') fun T ch g w ⟨_, hP⟩ => cn_walk2 W.heap.size W rfl T ch g w hP
  exact h2.good
end Go.Proofs.Ytplndihadjfliaa.Net
