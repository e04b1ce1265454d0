/-
  A NET OF GOROUTINES WITH select AND sync.WaitGroup: communications.
-/
import Derived.Test.YtplndihadjfliaaM1
import Derived.Conc.LeavingOf
set_option linter.unusedSimpArgs false
set_option linter.unusedVariables false
namespace Go.Proofs.Ytplndihadjfliaa.Mix
open Go Go.Conc Go.ConcN
open Go.ConcR (KK wgBlock WgAt stA smA rd wr)

section
variable {P : Program} {z : Nat → Value} {ty : TypeId × Bool} {Post : List Nat → List Nat → List Nat → Goroutine → World → Prop} {K : Abs → Prop} {rank : Abs → Nat} {a : Abs} {f : Nat → Option Nat} {T : List Nat} {Ts : Nat → List Nat} {gs : Array Goroutine} {w : World} {t : Trace}

theorem Net.offers (L : Law K rank) (N : Net P z ty Post K a f T Ts gs w t) {k : Nat} {x : Goroutine} (hx : gs[k]? = some x) (r : Nat) :
    (offersAt x r true = [] ∨ (f k = none ∧ offersAt x r true = [0] ∧ ∃ p v al, a.sc k = .pr p :: al ∧ Gives r v p)) ∧
    (offersAt x r false = [] ∨ (f k = none ∧ ∃ al, ((∃ v, a.sc k = .pr (.rcv r v) :: al) ∧ offersAt x r false = [0]) ∨ a.sc k = .pr (.eof r) :: al ∨ ∃ c v k', a.sc k = .pr (.sel c v r k') :: al)) := by
  have hk : k < a.n := by rw [← N.size]; exact (Array.getElem?_eq_some_iff.1 hx).1
  obtain ⟨x', hx', hs⟩ := N.sit k hk
  rw [hx] at hx'
  cases hx'
  cases hf : f k with
  | some n =>
    have : x.status ≠ .blocked := by
      rcases hs.status with ⟨h, _⟩ | ⟨h, _⟩ | ⟨_, h⟩
      · rw [h]; simp
      · rw [h]; simp
      · rw [hf] at h; cases h
    exact ⟨.inl (offersAt_of_not_blocked this _ _), .inl (offersAt_of_not_blocked this _ _)⟩
  | none =>
    rw [hf] at hs
    generalize hsk : a.sc k = s at hs
    cases hs with
    | park hp =>
      rename_i p al
      cases p with
      | snd c v =>
        obtain ⟨g₂, z', rfl, _⟩ := hp
        refine ⟨?_, .inl (offersAt_parked_send' _ _ _ _ _ _)⟩
        by_cases hcr : c = r
        · subst hcr; exact .inr ⟨rfl, by rw [offersAt_parked_send]; simp, _, v, al, rfl, .inl rfl⟩
        · exact .inl (by rw [offersAt_parked_send, if_neg hcr])
      | rcv c v =>
        obtain ⟨g₀, rfl, _⟩ := hp
        refine ⟨.inl (offersAt_parked_recv' _ _ _ _ _), ?_⟩
        by_cases hcr : c = r
        · subst hcr; exact .inr ⟨rfl, al, .inl ⟨⟨v, rfl⟩, by rw [offersAt_parked_recv]; simp⟩⟩
        · exact .inl (by rw [offersAt_parked_recv, if_neg hcr])
      | eof c =>
        obtain ⟨g₀, rfl, _⟩ := hp
        refine ⟨.inl (offersAt_parked_recv' _ _ _ _ _), ?_⟩
        by_cases hcr : c = r
        · subst hcr; exact .inr ⟨rfl, al, .inr (.inl rfl)⟩
        · exact .inl (by rw [offersAt_parked_recv, if_neg hcr])
      | sel c v s k' =>
        obtain ⟨g₀, z', zs, rfl, _, _⟩ := hp
        constructor
        · by_cases hcr : c = r
          · subst hcr; exact .inr ⟨rfl, by rw [offers_sel_send]; simp, _, v, al, rfl, .inr ⟨s, k', rfl⟩⟩
          · exact .inl (by rw [offers_sel_send, if_neg hcr])
        · by_cases hsr : s = r
          · subst hsr; exact .inr ⟨rfl, al, .inr (.inr ⟨c, v, k', rfl⟩)⟩
          · exact .inl (by rw [offers_sel_recv, if_neg hsr])
      | acs =>
        obtain ⟨g₀, rfl, _, hof, _⟩ := hp
        constructor <;> exact .inl (by simp [offersAt, hof])
      | _ => exact hp.elim

theorem Net.noPartner (N : Net P z ty Post K a f T Ts gs w t) {i r : Nat} {send : Bool} (h : ∀ k x, k ≠ i → gs[k]? = some x → offersAt x r send = []) : partners (gs.setIfInBounds i ph) r send = [] := by
  refine partners_nil fun j g hj => ?_
  rcases getElem?_stand gs i j g hj with ⟨_, rfl⟩ | ⟨hji, hj'⟩
  · exact offersAt_ph _ _
  · exact h j g hji hj'

theorem Net.onePartner (N : Net P z ty Post K a f T Ts gs w t) {i j r : Nat} {send : Bool} {y : Goroutine} (hji : j ≠ i) (hj : gs[j]? = some y) (hy : offersAt y r send = [0]) (h : ∀ k x, k ≠ i → k ≠ j → gs[k]? = some x → offersAt x r send = []) :
    partners (gs.setIfInBounds i ph) r send = [(j, 0)] := by
  rw [partners_one (j := j) (g := y) (stand_get hji hj) fun k x hk hx => ?_, hy]
  · rfl
  · rcases getElem?_stand gs i k x hx with ⟨_, rfl⟩ | ⟨hki, hk'⟩
    · exact offersAt_ph _ _
    · exact h k x hki hk hk'

theorem Net.lt (N : Net P z ty Post K a f T Ts gs w t) {k : Nat} {x : Goroutine} (hx : gs[k]? = some x) : k < a.n := by rw [← N.size]; exact (Array.getElem?_eq_some_iff.1 hx).1

theorem Net.evs (L : Law K rank) (N : Net P z ty Post K a f T Ts gs w t) {i : Nat} (hi : i < a.n) (hs : i = 0 ∨ ∃ p al, a.sc i = .pr p :: al ∧ p.quiet = false) {fn : FuncId} {pos : String} {es : Array Event} (hes : ∀ e ∈ es, EE T a.G Ts i w.heap.size e) : Tr Ts a w.heap.size (t ++ MemOp.ofEvents i fn pos es) := by
  by_cases h0 : i = 0
  · subst h0
    exact N.tr.own0 (T := T) hi N.offG (fun k k0 hk b hb => N.sub k k0 hk b hb) (Nat.le_refl _) (by simpa [EE] using hes)
  · obtain ⟨p, al, h1, h2⟩ := hs.resolve_left h0
    refine N.tr.ownW N.offG (fun b hb => N.tsk i b hb) h0 hi ?_ (by simpa [EE, h0] using hes)
    rintro (h | h)
    · rw [h1] at h; cases h
    · rw [L.unrel a i p al N.k hi h1 h2] at h; cases h

theorem Net.parkedAt (N : Net P z ty Post K a f T Ts gs w t) {j : Nat} {p : Pr} {bs : List Do} (hj : j < a.n) (hf : f j = none) (hs : a.sc j = .pr p :: bs) : ∃ y, gs[j]? = some y ∧ Park P z ty Post a.wg T a.ch a.G Ts j (a.df j) bs y w p := by
  obtain ⟨y, hy, h⟩ := N.sit j hj
  rw [hf, hs] at h
  cases h with
  | park hp => exact ⟨y, hy, hp⟩

/-- A VALUE PASSES from goroutine i to goroutine j. -/
theorem Net.passed (L : Law K rank) (N : Net P z ty Post K a f T Ts gs w t) {i j c s r : Nat} {tm : Bool} {p : Pr} {v v' : Value} {al bs : List Do} {gi gj : Goroutine} {gs' : Array Goroutine} {t' : Trace} (hi : i < a.n) (hj : j < a.n)
    (hsi : a.sc i = .pr p :: al) (hgv : Gives c v p) (hsj : a.sc j = .pr (.rcv c v') :: bs)
    (hgi : gs'[i]? = some gi) (hgj : gs'[j]? = some gj) (hgs : ∀ k, k ≠ i → k ≠ j → gs'[k]? = gs[k]?) (hsz : gs'.size = gs.size)
    (hni : NN P z ty Post a.wg T a.ch a.G Ts i (a.df i) al gi (w.setChan c 0 #[] false s r tm)) (hnj : NN P z ty Post a.wg T a.ch a.G Ts j (a.df j) bs gj (w.setChan c 0 #[] false s r tm)) (ht : Tr Ts a w.heap.size t') :
    ∃ f', Lt2 (mu rank (a.pass i j al bs) f') (mu rank a f) ∧ Net P z ty Post K (a.pass i j al bs) f' T Ts gs' (w.setChan c 0 #[] false s r tm) t' := by
  obtain ⟨hne, rfl, hK, hrk⟩ := L.pass a i j p c v v' al bs N.k hi hj hsi hgv hsj
  obtain ⟨hc, ho⟩ := L.giveOpen a i p c v al N.k hi hsi hgv
  obtain ⟨ni, hni⟩ := sit_of_NN hni
  obtain ⟨nj, hnj⟩ := sit_of_NN hnj
  obtain ⟨s0, r0, tm0, hcb⟩ := N.chan c hc
  have hsc : ∀ k, k ≠ i → k ≠ j → (a.pass i j al bs).sc k = a.sc k := fun k h1 h2 => by simp [Abs.pass, put, h1, h2]
  have hsci : (a.pass i j al bs).sc i = al := by simp [Abs.pass, put, hne]
  have hscj : (a.pass i j al bs).sc j = bs := by simp [Abs.pass, put]
  have hRk : ∀ k, k < a.n → RR ty a.wg a.ch Ts k w (w.setChan c 0 #[] false s r tm) := fun k hk => N.rput hk hc _
  have hhs : (w.setChan c 0 #[] false s r tm).heap.size = w.heap.size := by simp [World.setChan]
  have hoth : ∀ b, b ≠ c → (w.setChan c 0 #[] false s r tm).heap[b]? = w.heap[b]? := fun b hb => by
    have : c ≠ b := fun e => hb e.symm
    simp [World.setChan, this]
  refine ⟨put (put f i (some ni)) j (some nj), lt_rank hrk, hK, by rw [hsz]; exact N.size, fun k hk => ?_, fun c' hc' => ?_, fun hon => ?_, N.ckch, N.sub, N.apart, N.offG, fun b hb => by rw [hhs]; exact N.tsz b hb, fun k b hb => by rw [hhs]; exact N.tsk k b hb, fun k q ds hk hfk hsk => ?_, fun k l q c' u u' ds es hk hl hfk hfl hsk hgv' hsl => ?_, ?_⟩
  · by_cases hki : k = i
    · subst hki
      exact ⟨gi, hgi, by rw [hsci]; simp only [put, hne, if_false, if_true]; exact hni⟩
    · by_cases hkj : k = j
      · subst hkj
        exact ⟨gj, hgj, by rw [hscj]; simp only [put, if_true]; exact hnj⟩
      · obtain ⟨x, hx, hsx⟩ := N.sit k hk
        refine ⟨x, by rw [hgs k hki hkj]; exact hx, ?_⟩
        rw [hsc k hki hkj]
        simp only [put, hki, hkj, if_false]
        exact hsx.rely (hRk k hk)
  · by_cases hcc : c' = c
    · subst hcc
      refine ⟨s, r, tm, ?_⟩
      show _ = some (Obj.chan 0 #[] (a.shut c') s r tm)
      rw [ho]
      exact heap_put hcb
    · obtain ⟨s1, r1, tm1, h1⟩ := N.chan c' hc'
      exact ⟨s1, r1, tm1, by rw [hoth c' hcc]; exact h1⟩
  · obtain ⟨h1, h2⟩ := N.grp hon
    refine ⟨?_, h2⟩
    exact (hoth a.wg fun e => N.wgCk hon hc e.symm).trans h1
  · have h1 : k ≠ i := by rintro rfl; simp [put, hne] at hfk
    have h2 : k ≠ j := by rintro rfl; simp [put] at hfk
    simp only [put, h1, h2, if_false] at hfk
    rw [hsc k h1 h2] at hsk
    have := N.opn k q ds hk hfk hsk
    cases q <;> exact this
  · have h1 : k ≠ i := by rintro rfl; simp [put, hne] at hfk
    have h2 : k ≠ j := by rintro rfl; simp [put] at hfk
    have h3 : l ≠ i := by rintro rfl; simp [put, hne] at hfl
    have h4 : l ≠ j := by rintro rfl; simp [put] at hfl
    simp only [put, h1, h2, h3, h4, if_false] at hfk hfl
    rw [hsc k h1 h2] at hsk
    rw [hsc l h3 h4] at hsl
    exact N.noMeet k l q c' u u' ds es hk hl hfk hfl hsk hgv' hsl
  · rw [hhs]
    refine ht.abs rfl rfl rfl rfl rfl rfl rfl rfl fun k hk => ?_
    rcases hk with h | h
    · have h1 : k ≠ i := by rintro rfl; rw [hsi] at h; cases h
      have h2 : k ≠ j := by rintro rfl; rw [hsj] at h; cases h
      exact .inl (by rw [hsc k h1 h2]; exact h)
    · exact .inr h

/-- GOROUTINE i WAITS. -/
theorem Net.parks (L : Law K rank) (N : Net P z ty Post K a f T Ts gs w t) {i n : Nat} {p : Pr} {al : List Do} {g' : Goroutine} {t' : Trace} (hi : i < a.n) (hf : f i = some n) (hsi : a.sc i = .pr p :: al)
    (hp : Park P z ty Post a.wg T a.ch a.G Ts i (a.df i) al g' w p) (ho : Blk a p)
    (h1 : ∀ c v j v' bs, Gives c v p → j < a.n → f j = none → a.sc j ≠ .pr (.rcv c v') :: bs) (h2 : ∀ c v j q v' bs, p = .rcv c v → j < a.n → f j = none → a.sc j = .pr q :: bs → ¬ Gives c v' q) (ht : Tr Ts a w.heap.size t') :
    ∃ f', Lt2 (mu rank a f') (mu rank a f) ∧ Net P z ty Post K a f' T Ts (gs.setIfInBounds i g') w t' := by
  refine ⟨put f i none, .right _ ?_, N.k, by simp [N.size], fun k hk => ?_, N.chan, N.grp, N.ckch, N.sub, N.apart, N.offG, N.tsz, N.tsk, fun k q ds hk hfk hsk => ?_, fun k l q c u u' ds es hk hl hfk hfl hsk hgv hsl => ?_, ht⟩
  · have h3 := sumTo_upd (j := a.n) (fun k => wf k (f k)) (wf i none) id hi
    simp only [id] at h3
    have e : (fun k => wf k (put f i none k)) = upd (fun k => wf k (f k)) i (wf i none) := by
      funext k; unfold put upd; by_cases hk : k = i
      · subst hk; simp
      · simp [hk]
    rw [e]
    have hfi : wf i (f i) = wf i (some n) := by rw [hf]
    have e4 : (fun a_1 => upd (fun k => wf k (f k)) i (wf i none) a_1) = upd (fun k => wf k (f k)) i (wf i none) := rfl
    rw [e4] at h3
    have : wf i none < wf i (some n) := by simp only [wf, fu]; split <;> omega
    omega
  · by_cases hki : k = i
    · subst hki
      have hlt : k < gs.size := by rw [N.size]; exact hk
      refine ⟨g', by simp [hlt], ?_⟩
      rw [hsi]
      simp only [put, if_true]
      exact .park hp
    · obtain ⟨x, hx, hsx⟩ := N.sit k hk
      have : i ≠ k := fun e => hki e.symm
      refine ⟨x, by rw [Array.getElem?_setIfInBounds_ne this]; exact hx, ?_⟩
      simp only [put, hki, if_false]
      exact hsx
  · by_cases hki : k = i
    · subst hki
      rw [hsi] at hsk
      cases hsk
      exact ho
    · simp only [put, hki, if_false] at hfk
      exact N.opn k q ds hk hfk hsk
  · by_cases hki : k = i
    · subst hki
      by_cases hli : l = k
      · subst hli
        rw [hsk] at hsl
        cases hsl
        rcases hgv with h | ⟨_, _, h⟩ <;> cases h
      · simp only [put, hli, if_false] at hfl
        rw [hsi] at hsk
        cases hsk
        exact h1 c u l u' es hgv hl hfl hsl
    · simp only [put, hki, if_false] at hfk
      by_cases hli : l = i
      · subst hli
        rw [hsi] at hsl
        cases hsl
        exact h2 c u' k q u ds rfl hk hfk hsk hgv
      · simp only [put, hli, if_false] at hfl
        exact N.noMeet k l q c u u' ds es hk hl hfk hfl hsk hgv hsl

/-- A communication that concerns goroutine i alone. -/
theorem Net.turnC (N : Net P z ty Post K a f T Ts gs w t) {a' : Abs} {i : Nat} {sl : Option (Nat × Nat)} {g' : Goroutine} {t' : Trace} (hi : i < a.n) (hK : K a') (hrk : rank a' < rank a) (hn : a'.n = a.n) (hck : a'.ck = a.ck) (hch : a'.ch = a.ch) (hG : a'.G = a.G) (hwg : a'.wg = a.wg)
    (hsc : ∀ k, k ≠ i → a'.sc k = a.sc k) (hdf : a'.df = a.df) (hshut : a'.shut = a.shut) (hon : a'.on = a.on) (hv : a'.v = a.v) (hwt : a'.wt = a.wt) (hsm : a'.sm = a.sm)
    (hs : NN P z ty Post a.wg T a.ch a.G Ts i (a'.df i) (a'.sc i) g' w) (ht : Tr Ts a' w.heap.size t') : ∃ μ', Lt2 μ' (mu rank a f) ∧ Inv P z ty Post K rank μ' (crowd (gs.setIfInBounds i g') w sl) t' := by
  obtain ⟨n', hs⟩ := sit_of_NN hs
  have hlt : i < gs.size := by rw [N.size]; exact hi
  refine ⟨_, lt_rank (f' := put f i (some n')) hrk, Inv.mk (T := T) (Ts := Ts) (f := put f i (some n')) sl ⟨hK, by rw [Array.size_setIfInBounds, hn]; exact N.size, fun k hk => ?_, fun c hc => ?_, fun ho => ?_, fun c hc => ?_, fun k k0 hk => ?_, fun c hc => ?_, fun k b hb => ?_, fun b hb => ?_, N.tsk, fun k p al hk hfk hsk => ?_, fun k l p c u u' ds es hk hl hfk hfl hsk hgv hsl => ?_, ht⟩⟩
  · rw [hn] at hk
    rw [hwg, hch, hG]
    by_cases hki : k = i
    · subst hki
      exact ⟨g', by simp [hlt], by rw [put_same]; exact hs⟩
    · obtain ⟨x, hx, hsx⟩ := N.sit k hk
      refine ⟨x, by rw [Array.getElem?_setIfInBounds_ne (fun e => hki e.symm)]; exact hx, ?_⟩
      rw [hsc k hki, hdf, put_ne _ _ hki]
      exact hsx
  · rw [hshut]; exact N.chan c (by rw [← hck]; exact hc)
  · rw [hon] at ho; rw [hwg, hv, hwt, hsm, hch, hG]; exact N.grp ho
  · rw [hch]; exact N.ckch c (by rw [← hck]; exact hc)
  · rw [hn] at hk; exact N.sub k k0 hk
  · rw [hch] at hc; exact N.apart c hc
  · rw [hG]; exact N.offG k b hb
  · rw [hch, hG] at hb; exact N.tsz b hb
  · rw [hn] at hk
    have h1 : k ≠ i := by rintro rfl; simp [put] at hfk
    rw [put_ne _ _ h1] at hfk
    rw [hsc k h1] at hsk
    have := N.opn k p al hk hfk hsk
    cases p with
    | eof c => simpa only [Blk, hshut] using this
    | sel c v s k' => simpa only [Blk, hshut] using this
    | acs => simpa only [Blk, hsm] using this
    | _ => exact this
  · rw [hn] at hk hl
    have h1 : k ≠ i := by rintro rfl; simp [put] at hfk
    have h3 : l ≠ i := by rintro rfl; simp [put] at hfl
    rw [put_ne _ _ h1] at hfk
    rw [put_ne _ _ h3] at hfl
    rw [hsc k h1] at hsk
    rw [hsc l h3] at hsl
    exact N.noMeet k l p c u u' ds es hk hl hfk hfl hsk hgv hsl

theorem gives_snd {c c' : Nat} {v v' : Value} (h : Gives c' v' (.snd c v)) : c' = c ∧ v' = v := by
  rcases h with h | ⟨s, k, h⟩ <;> cases h
  exact ⟨rfl, rfl⟩
theorem gives_sel {c c' s k : Nat} {v v' : Value} (h : Gives c' v' (.sel c v s k)) : c' = c ∧ v' = v := by
  rcases h with h | ⟨s, k, h⟩ <;> cases h
  exact ⟨rfl, rfl⟩

/-- Who else could take what goroutine i gives at c. -/
theorem Net.takers (L : Law K rank) (N : Net P z ty Post K a f T Ts gs w t) {i c : Nat} {p : Pr} {v : Value} {al : List Do} (hi : i < a.n) (hsi : a.sc i = .pr p :: al) (hgv : Gives c v p) {k : Nat} {x : Goroutine} (hx : gs[k]? = some x) :
    offersAt x c false = [] ∨ (f k = none ∧ ∃ v' bs, a.sc k = .pr (.rcv c v') :: bs) := by
  have hk := N.lt hx
  rcases (N.offers L hx c).2 with h | ⟨hfk, ds, ⟨⟨u, hsk⟩, _⟩ | hsk | ⟨c', u, k', hsk⟩⟩
  · exact .inl h
  · exact .inr ⟨hfk, u, ds, hsk⟩
  · exact absurd hsk (L.noEof a i k p c v al ds N.k hi hk hsi hgv)
  · exact absurd hgv ((L.sel a k c' u c k' ds N.k hk hsk).2.1 i p al v hi hsi)

theorem Net.atSnd (L : Law K rank) (N : Net P z ty Post K a f T Ts gs w t) {i n c : Nat} {v : Value} {al : List Do} {sl : Option (Nat × Nat)} {g : Goroutine} (hi : i < a.n) (hg : gs[i]? = some g) (hf : f i = some n) (hsi : a.sc i = .pr (.snd c v) :: al)
    (hat : At P z ty Post a.wg T a.ch a.G Ts i (a.df i) (.snd c v) al g w) :
    ∃ m' ops μ', runT P (crowd gs w sl) i = (.next m', ops) ∧ Lt2 μ' (mu rank a f) ∧ Inv P z ty Post K rank μ' m' (t ++ ops) := by
  obtain ⟨hrun, g₂, z', es, hst, hes, hnext⟩ := hat
  have hgv : Gives c v (.snd c v) := .inl rfl
  obtain ⟨hc, ho⟩ := L.giveOpen a i _ c v al N.k hi hsi hgv
  obtain ⟨s, r, tm, hcb⟩ := N.chan c hc
  rw [ho] at hcb
  have htr := N.evs L (fn := g.frame.fn) (pos := g.frame.place) hi (.inr ⟨_, _, hsi, rfl⟩) hes
  have hpos := L.pos a N.k
  by_cases hm : ∃ j v' bs, j < a.n ∧ f j = none ∧ a.sc j = .pr (.rcv c v') :: bs
  · obtain ⟨j, v', bs, hj, hfj, hsj⟩ := hm
    obtain ⟨hij, hv, _, _⟩ := L.pass a i j _ c v v' al bs N.k hi hj hsi hgv hsj
    subst hv
    obtain ⟨y, hy, g₀, rfl, hnj⟩ := N.parkedAt hj hfj hsj
    have hji : j ≠ i := fun e => hij e.symm
    have hp := N.onePartner (send := false) hji hy (r := c) (by rw [offersAt_parked_recv]; simp) fun k x hki hkj hx => by
      rcases N.takers L hi hsi hgv hx with h | ⟨_, u, ds, hsk⟩
      · exact h
      · exact absurd (L.rcvOne a k j c u v ds bs N.k (N.lt hx) hj hsk hsj) hkj
    have hstep := crowd_send_meets (sl := sl) hg hst hcb hji hy hp
    have hlt : i < gs.size := (Array.getElem?_eq_some_iff.1 hg).1
    have hltj : j < gs.size := (Array.getElem?_eq_some_iff.1 hy).1
    obtain ⟨f', hl, hN⟩ := Net.passed (s := s + 1) (r := r + 1) (tm := tm) (gi := Go.Conc.served g₂ undef) (gj := Go.Conc.served (core g₀) (.tuple #[v, .bool true]))
      (gs' := (gs.setIfInBounds j (Go.Conc.served (core g₀) (.tuple #[v, .bool true]))).setIfInBounds i (Go.Conc.served g₂ undef)) L N hi hj hsi hgv hsj
      (by simp [hlt]) (by rw [Array.getElem?_setIfInBounds_ne hij]; simp [hltj]) (fun k h1 h2 => by rw [Array.getElem?_setIfInBounds_ne (fun e => h1 e.symm), Array.getElem?_setIfInBounds_ne (fun e => h2 e.symm)]) (by simp)
      (hnext _ (N.rput hi hc _)) (hnj _ (N.rput hj hc _))
      (htr.silent' N.offG hpos #[{ g := i, fn := g₂.frame.fn, pos := g₂.frame.place, act := .send c s }, { g := j, fn := (core g₀).frame.fn, pos := (core g₀).frame.place, act := .recv c r 0 },
        { g := i, fn := g₂.frame.fn, pos := g₂.frame.place, act := .sendDone c s }, { g := j, fn := (core g₀).frame.fn, pos := (core g₀).frame.place, act := .recvDone c r }] (by simp [hi, hj, MemAct.touch?]))
    refine ⟨_, _, _, hstep, hl, ?_⟩
    rw [← Array.append_assoc]
    exact .mk sl hN
  · have hp := N.noPartner (i := i) (r := c) (send := false) fun k x hki hx => by
      rcases N.takers L hi hsi hgv hx with h | ⟨hfk, u, ds, hsk⟩
      · exact h
      · exact absurd ⟨k, u, ds, N.lt hx, hfk, hsk⟩ hm
    have hstep := crowd_waits (sl := sl) hg hst fun cc hcc => by
      simp only [List.mem_toArray, List.mem_cons, List.not_mem_nil, or_false] at hcc
      subst hcc
      exact ways_send_none hcb (Nat.le_refl _) hp
    obtain ⟨f', hl, hN⟩ := N.parks (g' := parked g₂ #[scase c v z'] .send) L hi hf hsi ⟨g₂, z', rfl, hnext⟩ trivial (fun c' u j v' bs h hj hfj hsj => by obtain ⟨rfl, rfl⟩ := gives_snd h; exact hm ⟨j, v', bs, hj, hfj, hsj⟩) (fun c' u j q v' bs h => by cases h) htr
    exact ⟨_, _, _, hstep, hl, .mk sl hN⟩

theorem Net.atSel (L : Law K rank) (N : Net P z ty Post K a f T Ts gs w t) {i n c st k : Nat} {v : Value} {al : List Do} {sl : Option (Nat × Nat)} {g : Goroutine} (hi : i < a.n) (hg : gs[i]? = some g) (hf : f i = some n) (hsi : a.sc i = .pr (.sel c v st k) :: al)
    (hat' : ∀ w₁, RR ty a.wg a.ch Ts i w w₁ → At P z ty Post a.wg T a.ch a.G Ts i (a.df i) (.sel c v st k) al g w₁) :
    ∃ m' ops μ', runT P (crowd gs w sl) i = (.next m', ops) ∧ Lt2 μ' (mu rank a f) ∧ Inv P z ty Post K rank μ' m' (t ++ ops) := by
  obtain ⟨hrun, z', zs, es, hst, hes, hn1, hn2⟩ := hat' w (RR.refl _ _)
  have hgv : Gives c v (.sel c v st k) := .inr ⟨st, k, rfl⟩
  obtain ⟨hc, ho⟩ := L.giveOpen a i _ c v al N.k hi hsi hgv
  obtain ⟨hsin, hsq, hsel⟩ := L.sel a i c v st k al N.k hi hsi
  obtain ⟨s, r, tm, hcb⟩ := N.chan c hc
  obtain ⟨s2, r2, tm2, hcs⟩ := N.chan st hsin
  rw [ho] at hcb
  have htr := N.evs L (fn := g.frame.fn) (pos := g.frame.place) hi (.inr ⟨_, _, hsi, rfl⟩) hes
  have hpos := L.pos a N.k
  have hne : a.sc i ≠ [] := by rw [hsi]; simp
  have hps := N.noPartner (i := i) (r := st) (send := true) fun k x hki hx => by
    rcases (N.offers L hx st).1 with h | ⟨_, _, q, u, ds, hsk, hq⟩
    · exact h
    · exact absurd hq (hsq k q ds u (N.lt hx) hsk)
  cases hsh : a.shut st with
  | true =>
    rw [hsh] at hcs
    obtain ⟨hnr, hK, hrk⟩ := hsel hsh
    have hpc := N.noPartner (i := i) (r := c) (send := false) fun k x hki hx => by
      rcases N.takers L hi hsi hgv hx with h | ⟨_, u, ds, hsk⟩
      · exact h
      · exact absurd hsk (hnr k u ds (N.lt hx))
    have hstep := sel_closed (sl := sl) hg hst (ways_send_none hcb (Nat.le_refl _) hpc) hcs hps
    obtain ⟨μ', h1, h2⟩ := N.turnC (sl := sl) (a' := a.to i (al.drop k)) (g' := (core g).finishComm P (selc c v z' st zs) .select 1 zs false) (t' := t ++ (MemOp.ofEvents i g.frame.fn g.frame.place es ++ #[{ g := i, fn := (core g).frame.fn, pos := (core g).frame.place, act := .recvClosed st }]))
      hi hK hrk rfl rfl rfl rfl rfl (fun k hk => by simp [Abs.to, put, hk]) rfl rfl rfl rfl rfl rfl (by rw [to_sc]; exact hn2 _ (RR.refl _ _)) (by
        rw [← Array.append_assoc]
        refine (htr.silent' N.offG hpos #[{ g := i, fn := (core g).frame.fn, pos := (core g).frame.place, act := .recvClosed st }] (by simp [hi, MemAct.touch?])).abs rfl rfl rfl rfl rfl rfl rfl rfl (out_put hne rfl rfl))
    exact ⟨_, _, _, hstep, h1, h2⟩
  | false =>
    rw [hsh] at hcs
    have hws := ways_recv_none (z := zs) hcs hps
    by_cases hm : ∃ j v' bs, j < a.n ∧ f j = none ∧ a.sc j = .pr (.rcv c v') :: bs
    · obtain ⟨j, v', bs, hj, hfj, hsj⟩ := hm
      obtain ⟨hij, hv, _, _⟩ := L.pass a i j _ c v v' al bs N.k hi hj hsi hgv hsj
      subst hv
      obtain ⟨y, hy, g₀, rfl, hnj⟩ := N.parkedAt hj hfj hsj
      have hji : j ≠ i := fun e => hij e.symm
      have hp := N.onePartner (send := false) hji hy (r := c) (by rw [offersAt_parked_recv]; simp) fun k x hki hkj hx => by
        rcases N.takers L hi hsi hgv hx with h | ⟨_, u, ds, hsk⟩
        · exact h
        · exact absurd (L.rcvOne a k j c u v ds bs N.k (N.lt hx) hj hsk hsj) hkj
      have hstep := sel_meets_recv (sl := sl) hg hst hws hcb hji hy hp
      have hlt : i < gs.size := (Array.getElem?_eq_some_iff.1 hg).1
      have hltj : j < gs.size := (Array.getElem?_eq_some_iff.1 hy).1
      obtain ⟨f', hl, hN⟩ := Net.passed (s := s + 1) (r := r + 1) (tm := tm) (gi := (core g).finishComm P (selc c v z' st zs) .select 0 undef false) (gj := Go.Conc.served (core g₀) (.tuple #[v, .bool true]))
        (gs' := (gs.setIfInBounds j (Go.Conc.served (core g₀) (.tuple #[v, .bool true]))).setIfInBounds i ((core g).finishComm P (selc c v z' st zs) .select 0 undef false)) L N hi hj hsi hgv hsj
        (by simp [hlt]) (by rw [Array.getElem?_setIfInBounds_ne hij]; simp [hltj]) (fun k h1 h2 => by rw [Array.getElem?_setIfInBounds_ne (fun e => h1 e.symm), Array.getElem?_setIfInBounds_ne (fun e => h2 e.symm)]) (by simp)
        (hn1 _ (N.rput hi hc _)) (hnj _ (N.rput hj hc _))
        (htr.silent' N.offG hpos #[{ g := i, fn := (core g).frame.fn, pos := (core g).frame.place, act := .send c s }, { g := j, fn := (core g₀).frame.fn, pos := (core g₀).frame.place, act := .recv c r 0 },
          { g := i, fn := (core g).frame.fn, pos := (core g).frame.place, act := .sendDone c s }, { g := j, fn := (core g₀).frame.fn, pos := (core g₀).frame.place, act := .recvDone c r }] (by simp [hi, hj, MemAct.touch?]))
      refine ⟨_, _, _, hstep, hl, ?_⟩
      rw [← Array.append_assoc]
      exact .mk sl hN
    · have hp := N.noPartner (i := i) (r := c) (send := false) fun k x hki hx => by
        rcases N.takers L hi hsi hgv hx with h | ⟨hfk, u, ds, hsk⟩
        · exact h
        · exact absurd ⟨k, u, ds, N.lt hx, hfk, hsk⟩ hm
      have hstep := sel_waits (sl := sl) hg hst (ways_send_none hcb (Nat.le_refl _) hp) hws
      obtain ⟨f', hl, hN⟩ := N.parks (g' := parked (core g) (selc c v z' st zs) .select) L hi hf hsi ⟨g, z', zs, rfl, hn1, hat'⟩ hsh (fun c' u j v' bs h hj hfj hsj => by obtain ⟨rfl, rfl⟩ := gives_sel h; exact hm ⟨j, v', bs, hj, hfj, hsj⟩) (fun c' u j q v' bs h => by cases h) htr
      exact ⟨_, _, _, hstep, hl, .mk sl hN⟩

theorem Net.atRcv (L : Law K rank) (N : Net P z ty Post K a f T Ts gs w t) {i n c : Nat} {v : Value} {al : List Do} {sl : Option (Nat × Nat)} {g : Goroutine} (hi : i < a.n) (hg : gs[i]? = some g) (hf : f i = some n) (hsi : a.sc i = .pr (.rcv c v) :: al)
    (hat : At P z ty Post a.wg T a.ch a.G Ts i (a.df i) (.rcv c v) al g w) :
    ∃ m' ops μ', runT P (crowd gs w sl) i = (.next m', ops) ∧ Lt2 μ' (mu rank a f) ∧ Inv P z ty Post K rank μ' m' (t ++ ops) := by
  obtain ⟨hrun, es, hst, hes, hnext⟩ := hat
  obtain ⟨hc, ho⟩ := L.rcvOpen a i c v al N.k hi hsi
  obtain ⟨s, r, tm, hcb⟩ := N.chan c hc
  rw [ho] at hcb
  have htr := N.evs L (fn := g.frame.fn) (pos := g.frame.place) hi (.inr ⟨_, _, hsi, rfl⟩) hes
  have hpos := L.pos a N.k
  by_cases hm : ∃ j p v' bs, j < a.n ∧ f j = none ∧ a.sc j = .pr p :: bs ∧ Gives c v' p
  · obtain ⟨j, p, v', bs, hj, hfj, hsj, hgv⟩ := hm
    obtain ⟨hji, hv, _, _⟩ := L.pass a j i p c v' v bs al N.k hj hi hsj hgv hsi
    subst hv
    have hij : i ≠ j := fun e => hji e.symm
    obtain ⟨y, hy, hpk⟩ := N.parkedAt hj hfj hsj
    have hof : offersAt y c true = [0] := by
      rcases (N.offers L hy c).1 with h | ⟨_, h, _⟩
      · rcases hgv with rfl | ⟨st, k, rfl⟩
        · obtain ⟨g₀, z', rfl, _⟩ := hpk
          rw [offersAt_parked_send] at h; simp at h
        · obtain ⟨g₀, z', zs, rfl, _⟩ := hpk
          rw [offers_sel_send] at h; simp at h
      · exact h
    have hp := N.onePartner (send := true) hji hy (r := c) hof fun k x hki hkj hx => by
      rcases (N.offers L hx c).1 with h | ⟨_, _, q, u, ds, hsk, hq⟩
      · exact h
      · exact absurd (L.giveOne a k j q p c u v' ds bs N.k (N.lt hx) hj hsk hq hsj hgv) hkj
    have hlt : i < gs.size := (Array.getElem?_eq_some_iff.1 hg).1
    have hltj : j < gs.size := (Array.getElem?_eq_some_iff.1 hy).1
    have fin : ∀ (gj : Goroutine) (ops : Array MemOp), NN P z ty Post a.wg T a.ch a.G Ts j (a.df j) bs gj (w.setChan c 0 #[] false (s + 1) (r + 1) tm) → (∀ op ∈ ops, op.g < a.n ∧ op.act.touch? = none ∧ ∀ m, op.act ≠ .mark m) →
        ∃ μ', Lt2 μ' (mu rank a f) ∧ Inv P z ty Post K rank μ' (crowd ((gs.setIfInBounds j gj).setIfInBounds i (Go.Conc.served (core g) (.tuple #[v', .bool true]))) (w.setChan c 0 #[] false (s + 1) (r + 1) tm) sl) (t ++ (MemOp.ofEvents i g.frame.fn g.frame.place es ++ ops)) := by
      intro gj ops hgj hops
      obtain ⟨f', hl, hN⟩ := Net.passed (s := s + 1) (r := r + 1) (tm := tm) (gi := gj) (gj := Go.Conc.served (core g) (.tuple #[v', .bool true]))
        (gs' := (gs.setIfInBounds j gj).setIfInBounds i (Go.Conc.served (core g) (.tuple #[v', .bool true]))) L N hj hi hsj hgv hsi
        (by rw [Array.getElem?_setIfInBounds_ne hij]; simp [hltj]) (by simp [hlt]) (fun k h1 h2 => by rw [Array.getElem?_setIfInBounds_ne (fun e => h2 e.symm), Array.getElem?_setIfInBounds_ne (fun e => h1 e.symm)]) (by simp)
        hgj (hnext _ (N.rput hi hc _)) (htr.silent' N.offG hpos ops hops)
      refine ⟨_, hl, ?_⟩
      rw [← Array.append_assoc]
      exact .mk sl hN
    rcases hgv with rfl | ⟨st, k, rfl⟩
    · obtain ⟨g₀, z', rfl, hnj⟩ := hpk
      have hstep := crowd_recv_meets (sl := sl) hg hst hcb hji hy hp
      obtain ⟨μ', h1, h2⟩ := fin (Go.Conc.served g₀ undef) #[{ g := j, fn := g₀.frame.fn, pos := g₀.frame.place, act := .send c s }, { g := i, fn := (core g).frame.fn, pos := (core g).frame.place, act := .recv c r 0 },
          { g := j, fn := g₀.frame.fn, pos := g₀.frame.place, act := .sendDone c s }, { g := i, fn := (core g).frame.fn, pos := (core g).frame.place, act := .recvDone c r }] (hnj _ (N.rput hj hc _)) (by simp [hi, hj, MemAct.touch?])
      exact ⟨_, _, _, hstep, h1, h2⟩
    · obtain ⟨g₀, z', zs, rfl, hnj, _⟩ := hpk
      have hstep := recv_meets_sel (sl := sl) hg hst hcb hji hy hp
      obtain ⟨μ', h1, h2⟩ := fin ((core g₀).finishComm P (selc c v' z' st zs) .select 0 undef false) #[{ g := j, fn := (core g₀).frame.fn, pos := (core g₀).frame.place, act := .send c s }, { g := i, fn := (core g).frame.fn, pos := (core g).frame.place, act := .recv c r 0 },
          { g := j, fn := (core g₀).frame.fn, pos := (core g₀).frame.place, act := .sendDone c s }, { g := i, fn := (core g).frame.fn, pos := (core g).frame.place, act := .recvDone c r }] (hnj _ (N.rput hj hc _)) (by simp [hi, hj, MemAct.touch?])
      exact ⟨_, _, _, hstep, h1, h2⟩
  · have hp := N.noPartner (i := i) (r := c) (send := true) fun k x hki hx => by
      rcases (N.offers L hx c).1 with h | ⟨hfk, _, q, u, ds, hsk, hq⟩
      · exact h
      · exact absurd ⟨k, q, u, ds, N.lt hx, hfk, hsk, hq⟩ hm
    have hstep := crowd_waits (sl := sl) hg hst fun cc hcc => by
      simp only [List.mem_toArray, List.mem_cons, List.not_mem_nil, or_false] at hcc
      subst hcc
      exact ways_recv_none hcb hp
    obtain ⟨f', hl, hN⟩ := N.parks (g' := parked (core g) #[rcase c (z c)] (.recv true)) L hi hf hsi ⟨g, rfl, hnext⟩ trivial (fun c' u j v' bs h => by rcases h with h | ⟨_, _, h⟩ <;> cases h)
      (fun c' u j q v' bs h hj hfj hsj hq => by cases h; exact hm ⟨j, q, v', bs, hj, hfj, hsj, hq⟩) htr
    exact ⟨_, _, _, hstep, hl, .mk sl hN⟩

theorem Net.atEof (L : Law K rank) (N : Net P z ty Post K a f T Ts gs w t) {i n c : Nat} {al : List Do} {sl : Option (Nat × Nat)} {g : Goroutine} (hi : i < a.n) (hg : gs[i]? = some g) (hf : f i = some n) (hsi : a.sc i = .pr (.eof c) :: al)
    (hat : ∀ w₁, RR ty a.wg a.ch Ts i w w₁ → At P z ty Post a.wg T a.ch a.G Ts i (a.df i) (.eof c) al g w₁) :
    ∃ m' ops μ', runT P (crowd gs w sl) i = (.next m', ops) ∧ Lt2 μ' (mu rank a f) ∧ Inv P z ty Post K rank μ' m' (t ++ ops) := by
  obtain ⟨hrun, es, hst, hes, hnext⟩ := hat _ (RR.refl _ _)
  have hc := L.eofIn a i c al N.k hi hsi
  obtain ⟨s, r, tm, hcb⟩ := N.chan c hc
  have hne : a.sc i ≠ [] := by rw [hsi]; simp
  have htr := N.evs L (fn := g.frame.fn) (pos := g.frame.place) hi (.inr ⟨_, _, hsi, rfl⟩) hes
  have hpos := L.pos a N.k
  have hp := N.noPartner (i := i) (r := c) (send := true) fun k x hki hx => by
    rcases (N.offers L hx c).1 with h | ⟨hfk, _, q, u, ds, hsk, hq⟩
    · exact h
    · exact absurd hsi (L.noEof a k i q c u ds al N.k (N.lt hx) hi hsk hq)
  cases hsh : a.shut c with
  | false =>
    rw [hsh] at hcb
    have hstep := crowd_waits (sl := sl) hg hst fun cc hcc => by
      simp only [List.mem_toArray, List.mem_cons, List.not_mem_nil, or_false] at hcc
      subst hcc
      exact ways_recv_none hcb hp
    obtain ⟨f', hl, hN⟩ := N.parks (g' := parked (core g) #[rcase c (z c)] (.recv true)) L hi hf hsi ⟨g, rfl, hat⟩ hsh (fun c' u j v' bs h => by rcases h with h | ⟨_, _, h⟩ <;> cases h) (fun c' u j q v' bs h => by cases h) htr
    exact ⟨_, _, _, hstep, hl, .mk sl hN⟩
  | true =>
    rw [hsh] at hcb
    obtain ⟨hd, hK, hrk⟩ := L.eof a i c al N.k hi hsi hsh
    have hstep := crowd_recv_closed (sl := sl) hg hst hcb hp
    have hsci : (a.seen i c al).sc i = al := by simp [Abs.seen, put]
    obtain ⟨μ', h1, h2⟩ := N.turnC (sl := sl) (a' := a.seen i c al) (g' := Go.Conc.served (core g) (.tuple #[z c, .bool false])) (t' := t ++ (MemOp.ofEvents i g.frame.fn g.frame.place es ++ #[{ g := i, fn := (core g).frame.fn, pos := (core g).frame.place, act := .recvClosed c }]))
      hi hK hrk rfl rfl rfl rfl rfl (fun k hk => by simp [Abs.seen, put, hk]) rfl rfl rfl rfl rfl rfl (by rw [hsci]; exact hnext _ (RR.refl _ _)) (by
        rw [← Array.append_assoc]
        exact htr.seen N.offG hpos hne hi hd hsh)
    exact ⟨_, _, _, hstep, h1, h2⟩

theorem Net.atCls (L : Law K rank) (N : Net P z ty Post K a f T Ts gs w t) {i c : Nat} {al : List Do} {sl : Option (Nat × Nat)} {g : Goroutine} (hi : i < a.n) (hg : gs[i]? = some g) (hsi : a.sc i = .pr (.cls c) :: al)
    (hat : At P z ty Post a.wg T a.ch a.G Ts i (a.df i) (.cls c) al g w) :
    ∃ m' ops μ', runT P (crowd gs w sl) i = (.next m', ops) ∧ Lt2 μ' (mu rank a f) ∧ Inv P z ty Post K rank μ' m' (t ++ ops) := by
  obtain ⟨hrun, hwake, hcl⟩ := hat
  obtain ⟨hc, ho, hd, hnr, hns, hK, hrk⟩ := L.cls a i c al N.k hi hsi
  obtain ⟨s, r, tm, hcb⟩ := N.chan c hc
  rw [ho] at hcb
  obtain ⟨g₂, es, hst, hg₂, hes, hnext⟩ := hcl s r tm hcb
  have hne : a.sc i ≠ [] := by rw [hsi]; simp
  have htr := N.evs L (fn := g.frame.fn) (pos := g.frame.place) hi (.inr ⟨_, _, hsi, rfl⟩) hes
  have hpos := L.pos a N.k
  have hc2 : (w.shut c s r tm).heap[c]? = some (.chan 0 #[] true s r tm) := heap_put hcb
  have hoth : ∀ b, b ≠ c → (w.shut c s r tm).heap[b]? = w.heap[b]? := fun b hb => by
    have : c ≠ b := fun e => hb e.symm
    simp [World.shut, this]
  have hsz : (w.shut c s r tm).heap.size = w.heap.size := by simp [World.shut]
  refine N.act L (a' := a.close i c al) hi hg hst hK hrk rfl rfl rfl rfl rfl (fun k hk => by simp [Abs.close, put, hk]) (fun k hk => rfl) (fun c' hc' => ?_) (fun hon => ⟨hon, (hoth a.wg fun e => N.wgCk hon hc e.symm).trans (N.grp hon).1⟩) (by rw [hsz]; exact Nat.le_refl _)
    (fun k _ hk => N.rput hk hc _) (fun k p al' hki hk hfk hsk => .inr ⟨hwake, hg₂⟩) ?_ ?_
  · by_cases hcc : c' = c
    · subst hcc; exact ⟨s, r, tm, by simpa [Abs.close, put] using hc2⟩
    · obtain ⟨s1, r1, tm1, h1⟩ := N.chan c' hc'
      exact ⟨s1, r1, tm1, by rw [hoth c' hcc, h1]; simp [Abs.close, put, hcc]⟩
  · have hsci : (a.close i c al).sc i = al := by simp [Abs.close, put]
    rw [hsci]
    exact hnext _ (RR.refl _ _)
  · rw [hsz, ofEvents_push, Array.push_eq_append, ← Array.append_assoc]
    exact htr.close N.offG hpos hne hi hd

end
end Go.Proofs.Ytplndihadjfliaa.Mix
/-
  A NET OF GOROUTINES WITH select AND sync.WaitGroup: the go statement, the group's making, the semaphore; the theorem.
-/
set_option linter.unusedSimpArgs false
set_option linter.unusedVariables false
namespace Go.Proofs.Ytplndihadjfliaa.Mix
open Go Go.Conc Go.ConcN
open Go.ConcR (KK wgBlock WgAt stA smA rd wr)

section
variable {P : Program} {z : Nat → Value} {ty : TypeId × Bool} {Post : List Nat → List Nat → List Nat → Goroutine → World → Prop} {K : Abs → Prop} {rank : Abs → Nat} {a : Abs} {f : Nat → Option Nat} {T : List Nat} {Ts : Nat → List Nat} {gs : Array Goroutine} {w : World} {t : Trace}

theorem Net.atFork (L : Law K rank) (N : Net P z ty Post K a f T Ts gs w t) {T' cs : List Nat} {kid : List Pr} {al : List Do} {sl : Option (Nat × Nat)} {g : Goroutine} (hg : gs[0]? = some g) (hsi : a.sc 0 = .fork T' cs kid :: al)
    (hat : AtFork P z ty a.wg T a.ch a.G T' cs kid (FollowM P z ty a.wg Post al (T' ++ T) (cs ++ a.ch) a.G) g w) :
    ∃ m' ops μ', runT P (crowd gs w sl) 0 = (.next m', ops) ∧ Lt2 μ' (mu rank a f) ∧ Inv P z ty Post K rank μ' m' (t ++ ops) := by
  obtain ⟨hrun, g', child, w', es, hst, ⟨hT, hch, hsz, hes, hlv⟩, hcs, hT', hcr, hkid, hnext⟩ := hat
  have hpos := L.pos a N.k
  obtain ⟨_, hkn, hsh, hd0, hK, hrk⟩ := L.fork a 0 T' cs kid al N.k hpos hsi
  have hlt : 0 < gs.size := by rw [N.size]; exact hpos
  have hstep := runT_crowd_spawn (sl := sl) hg (by simpa using hst)
  have hne : a.sc 0 ≠ [] := by rw [hsi]; simp
  have htr := N.tr.own0 (T := T) (fn := g.frame.fn) (pos := g.frame.place) (es := es) hpos N.offG (fun k k0 hk b hb => N.sub k k0 hk b hb) hsz hes
  have hoffG : ∀ k b, b ∈ put Ts a.n T' k → b ∉ a.G := fun k b hb => by
    by_cases hk : k = a.n
    · subst hk; rw [put_same] at hb; exact (hT' b hb).2.1
    · rw [put_ne _ _ hk] at hb; exact N.offG k b hb
  have htf := htr.fork (T' := T') (cs := cs) (kid := kid) (al := al) hpos hoffG hne hd0 (fn := g.frame.fn) (fn' := child.frame.fn) (pos := g.frame.place) (pos' := g.frame.place)
  obtain ⟨n0, h0⟩ := sit_of_NN (P := P) (z := z) (ty := ty) (Post := Post) (Wg := a.wg) (T := T' ++ T) (ch := cs ++ a.ch) (G := a.G) (Ts := put Ts a.n T') (i := 0) (d := a.df 0) (al := al) (g := g') (w := w') (by simpa [NN] using hnext)
  have hn0 : a.n ≠ 0 := by omega
  obtain ⟨nk, hk'⟩ := sit_of_NN (P := P) (z := z) (ty := ty) (Post := Post) (Wg := a.wg) (T := T' ++ T) (ch := cs ++ a.ch) (G := a.G) (Ts := put Ts a.n T') (i := a.n) (d := 0) (al := kid.map .pr) (g := child) (w := w') (by simp only [NN, hn0, if_false]; exact ⟨kid, rfl, by simpa [put] using hkid⟩)
  have hsc : ∀ k, k ≠ 0 → k ≠ a.n → (a.fork cs kid al).sc k = a.sc k := fun k h1 h2 => by simp [Abs.fork, put, h1, h2]
  have hN : Net P z ty Post K (a.fork cs kid al) (put (put f 0 (some n0)) a.n (some nk)) (T' ++ T) (put Ts a.n T') ((gs.setIfInBounds 0 g').push child) w'
      ((t ++ MemOp.ofEvents 0 g.frame.fn g.frame.place es) ++ #[{ g := 0, fn := g.frame.fn, pos := g.frame.place, act := .go a.n }, { g := a.n, fn := child.frame.fn, pos := g.frame.place, act := .start }]) := by
    refine ⟨hK, ?_, fun k hk => ?_, fun c hc => ?_, fun hon => ?_, fun c hc => ?_, fun k k0 hk b hb => ?_, fun c hc => ?_, hoffG, fun b hb => ?_, fun k b hb => ?_, fun k q ds hk hfk hsk => ?_, fun k l q c' u u' ds es hk hl hfk hfl hsk hq hsl => ?_, htf⟩
    · rw [Array.size_push, Array.size_setIfInBounds, N.size]; rfl
    · have hsz : (gs.setIfInBounds 0 g').size = a.n := by rw [Array.size_setIfInBounds]; exact N.size
      by_cases hkn' : k = a.n
      · subst hkn'
        refine ⟨child, by rw [Array.getElem?_push, if_pos hsz.symm], ?_⟩
        have e : (a.fork cs kid al).sc a.n = kid.map .pr := by simp [Abs.fork, put]
        have e2 : (a.fork cs kid al).df a.n = 0 := by simp [Abs.fork, put]
        rw [e, e2]
        simp only [put, if_true]
        exact hk'
      · by_cases hk0 : k = 0
        · subst hk0
          refine ⟨g', by rw [Array.getElem?_push, if_neg (by omega)]; simp [hlt], ?_⟩
          have e : (a.fork cs kid al).sc 0 = al := by simp [Abs.fork, put, hkn']
          have e2 : (a.fork cs kid al).df 0 = a.df 0 := by simp [Abs.fork, put, hkn']
          rw [e, e2]
          simp only [put, hkn', if_false, if_true]
          exact h0
        · have hk2 : k < a.n := by simp only [Abs.fork] at hk; omega
          obtain ⟨x, hx, hsx⟩ := N.sit k hk2
          refine ⟨x, by rw [Array.getElem?_push, if_neg (by omega), Array.getElem?_setIfInBounds_ne (fun e => hk0 e.symm)]; exact hx, ?_⟩
          have e2 : (a.fork cs kid al).df k = a.df k := by simp [Abs.fork, put, hkn']
          rw [hsc k hk0 hkn', e2]
          simp only [put, hkn', hk0, if_false]
          have hr : RR ty a.wg a.ch Ts k w w' := by
            have : RW ty a.wg (Ts k) w w' := ⟨fun b hb => hT b (N.sub k hk0 hk2 b hb), hlv⟩
            simpa [RR, hk0] using this
          exact (hsx.rely hr).other hk0 (by simp [put, hkn'])
    · have hc : c ∈ cs ∨ c ∈ a.ck := by simpa [Abs.fork] using hc
      rcases hc with hc | hc
      · obtain ⟨_, _, s, r, tm, h⟩ := hcs c hc
        exact ⟨s, r, tm, by rw [h]; simp [Abs.fork, hsh c hc]⟩
      · obtain ⟨s, r, tm, h⟩ := N.chan c hc
        exact ⟨s, r, tm, by rw [hch c (N.ckch c hc)]; exact h⟩
    · obtain ⟨h1, h2, h3⟩ := N.grp hon
      refine ⟨(hch a.wg h2).trans h1, ?_, h3⟩
      show a.wg ∈ cs ++ a.ch
      simp [h2]
    · have hc : c ∈ cs ∨ c ∈ a.ck := by simpa [Abs.fork] using hc
      show c ∈ cs ++ a.ch
      rcases hc with hc | hc
      · simp [hc]
      · simp [N.ckch c hc]
    · by_cases hkn' : k = a.n
      · subst hkn'
        have : b ∈ T' := by simpa [put] using hb
        simp [this]
      · have : b ∈ Ts k := by simpa [put, hkn'] using hb
        have := N.sub k k0 (by simp only [Abs.fork] at hk; omega) b this
        simp [this]
    · have hc : c ∈ cs ∨ c ∈ a.ch := by simpa [Abs.fork] using hc
      rcases hc with hc | hc
      · exact (hcs c hc).1
      · intro hm
        rcases List.mem_append.1 hm with hm | hm
        · exact (hT' c hm).1 (by simp [hc])
        · exact N.apart c hc hm
    · have hb : (b ∈ T' ∨ b ∈ T) ∨ (b ∈ cs ∨ b ∈ a.ch) ∨ b ∈ a.G := by simpa [Abs.fork] using hb
      rcases hb with (hb | hb) | (hb | hb) | hb
      · exact (hT' b hb).2.2
      · exact Nat.lt_of_lt_of_le (N.tsz b (.inl hb)) hsz
      · obtain ⟨_, _, s, r, tm, h⟩ := hcs b hb
        exact (Array.getElem?_eq_some_iff.1 h).1
      · exact Nat.lt_of_lt_of_le (N.tsz b (.inr (.inl hb))) hsz
      · exact Nat.lt_of_lt_of_le (N.tsz b (.inr (.inr hb))) hsz
    · by_cases hk : k = a.n
      · subst hk; rw [put_same] at hb; exact (hT' b hb).2.2
      · rw [put_ne _ _ hk] at hb; exact Nat.lt_of_lt_of_le (N.tsk k b hb) hsz
    · have h2 : k ≠ a.n := by rintro rfl; simp [put] at hfk
      have h1 : k ≠ 0 := by rintro rfl; simp [put, h2] at hfk
      simp only [put, h1, h2, if_false] at hfk
      rw [hsc k h1 h2] at hsk
      have := N.opn k q ds (by simp only [Abs.fork] at hk; omega) hfk hsk
      cases q <;> exact this
    · have h2 : k ≠ a.n := by rintro rfl; simp [put] at hfk
      have h1 : k ≠ 0 := by rintro rfl; simp [put, h2] at hfk
      have h4 : l ≠ a.n := by rintro rfl; simp [put] at hfl
      have h3 : l ≠ 0 := by rintro rfl; simp [put, h4] at hfl
      simp only [put, h1, h2, h3, h4, if_false] at hfk hfl
      rw [hsc k h1 h2] at hsk
      rw [hsc l h3 h4] at hsl
      exact N.noMeet k l q c' u u' ds es (by simp only [Abs.fork] at hk; omega) (by simp only [Abs.fork] at hl; omega) hfk hfl hsk hq hsl
  refine ⟨_, _, mu rank (a.fork cs kid al) (put (put f 0 (some n0)) a.n (some nk)), hstep, lt_rank hrk, ?_⟩
  have e : t ++ ((MemOp.ofEvents 0 g.frame.fn g.frame.place es).push { g := 0, fn := g.frame.fn, pos := g.frame.place, act := .go gs.size } |>.push { g := gs.size, fn := child.frame.fn, pos := g.frame.place, act := .start }) =
      (t ++ MemOp.ofEvents 0 g.frame.fn g.frame.place es) ++ #[{ g := 0, fn := g.frame.fn, pos := g.frame.place, act := .go a.n }, { g := a.n, fn := child.frame.fn, pos := g.frame.place, act := .start }] := by
    rw [N.size]
    apply Array.ext'
    simp
  rw [e]
  exact .mk sl hN

/-- THE GROUP'S BLOCK IS MADE. -/
theorem Net.atMkg (L : Law K rank) (N : Net P z ty Post K a f T Ts gs w t) {al : List Do} {sl : Option (Nat × Nat)} {g : Goroutine} (hg : gs[0]? = some g) (hsi : a.sc 0 = .mkg :: al)
    (hat : AtMkg P ty a.wg (FollowM P z ty a.wg Post al T (a.wg :: a.ch) (a.wg :: a.G)) g w) :
    ∃ m' ops μ', runT P (crowd gs w sl) 0 = (.next m', ops) ∧ Lt2 μ' (mu rank a f) ∧ Inv P z ty Post K rank μ' m' (t ++ ops) := by
  obtain ⟨hrun, hw, g', w', hst, hheap, hnext⟩ := hat
  have hpos := L.pos a N.k
  obtain ⟨_, hoff, hK, hrk⟩ := L.mkg a 0 al N.k hpos hsi
  have hlt : 0 < gs.size := by rw [N.size]; exact hpos
  have hne : a.sc 0 ≠ [] := by rw [hsi]; simp
  have hstep := runT_crowd_go (sl := sl) hg (by simpa using hst)
  have hsz : w'.heap.size = w.heap.size + 1 := by rw [hheap]; simp
  have hold : ∀ b, b < w.heap.size → w'.heap[b]? = w.heap[b]? := fun b hb => by rw [hheap, Array.getElem?_push, if_neg (by omega)]
  obtain ⟨n0, h0⟩ := sit_of_NN (P := P) (z := z) (ty := ty) (Post := Post) (Wg := a.wg) (T := T) (ch := a.wg :: a.ch) (G := a.wg :: a.G) (Ts := Ts) (i := 0) (d := a.df 0) (al := al) (g := g') (w := w') (by simpa [NN] using hnext)
  have hsc : ∀ k, k ≠ 0 → (a.mkg al).sc k = a.sc k := fun k h1 => by simp [Abs.mkg, put, h1]
  have hsc0 : (a.mkg al).sc 0 = al := by simp [Abs.mkg, put]
  have hchan : ∀ c, c ∈ a.ck → ∃ s r tm, w'.heap[c]? = some (.chan 0 #[] (a.shut c) s r tm) := fun c hc => by
    rw [hold c (N.tsz c (.inr (.inl (N.ckch c hc))))]; exact N.chan c hc
  have hRW : ∀ k, k ≠ 0 → k < a.n → RR ty a.wg a.ch Ts k w w' := fun k k0 hk => by
    have : RW ty a.wg (Ts k) w w' := ⟨fun b hb => hold b (N.tsk k b hb), fun _ ⟨st, sm, h⟩ => ⟨st, sm, (hold _ (Array.getElem?_eq_some_iff.1 h).1).trans h⟩⟩
    simpa [RR, k0] using this
  have oth : ∀ k, k ≠ 0 → k < a.n → ∃ fk x, gs[k]? = some x ∧ Sit P z ty Post a.wg T a.ch a.G Ts k (a.df k) (a.sc k) fk (woken P g g' w' x) w' ∧ (fk = none → f k = none ∧ ∀ p al, a.sc k = .pr p :: al → Blk (a.mkg al) p) := by
    intro k hk0 hk
    obtain ⟨x, hx, _⟩ := N.sit k hk
    have hb : ∀ p bs, f k = none → a.sc k = .pr p :: bs → Blk (a.mkg al) p := fun p bs hfk hsk => by
      have hb := N.opn k p bs hk hfk hsk
      cases p with
      | acs => rfl
      | _ => exact hb
    obtain ⟨fk, h1, _, h3⟩ := N.others L hK rfl (hsc k hk0) (w' := w') hchan (hRW k hk0 hk) hk hx g g' fun p bs hfk hsk => .inl (hb p bs hfk hsk)
    exact ⟨fk, x, hx, h1, fun e => ⟨(h3 e).1, fun p bs hsk => hb p bs (h3 e).1 hsk⟩⟩
  classical
  let F : Nat → Option Nat := fun k => if h : k ≠ 0 ∧ k < a.n then (oth k h.1 h.2).choose else some n0
  have hF : ∀ k, k ≠ 0 → k < a.n → ∃ x, gs[k]? = some x ∧ Sit P z ty Post a.wg T a.ch a.G Ts k (a.df k) (a.sc k) (F k) (woken P g g' w' x) w' ∧ (F k = none → f k = none ∧ ∀ p al, a.sc k = .pr p :: al → Blk (a.mkg al) p) := by
    intro k h1 h2
    have e : F k = (oth k h1 h2).choose := by simp only [F]; rw [dif_pos ⟨h1, h2⟩]
    rw [e]
    exact (oth k h1 h2).choose_spec
  have hF0 : F 0 = some n0 := by simp only [F]; rw [dif_neg (fun h => h.1 rfl)]
  have htr : Tr Ts (a.mkg al) w'.heap.size t := N.tr.mkg (by rw [hw]; exact Nat.le_refl _) (by omega) hne
  refine ⟨_, _, mu rank (a.mkg al) F, hstep, lt_rank hrk, ?_⟩
  rw [evs_nil, Array.append_empty]
  refine Inv.mk (T := T) (Ts := Ts) (f := F) sl ⟨hK, (by rw [Array.size_setIfInBounds, Array.size_map]; exact N.size), fun k hk => ?_, hchan, fun _ => ⟨?_, by simp [Abs.mkg], by simp [Abs.mkg]⟩, fun c hc => ?_, N.sub, fun c hc => ?_, fun k b hb => ?_, fun b hb => ?_, fun k b hb => ?_, fun k p ds hk hfk hsk => ?_, fun k l p c u u' ds es hk hl hfk hfl hsk hgv hsl => ?_, htr⟩
  · by_cases hk0 : k = 0
    · subst hk0
      exact ⟨g', by simp [hlt], by rw [hsc0, hF0]; exact h0⟩
    · obtain ⟨x, hx, hsx, _⟩ := hF k hk0 hk
      refine ⟨_, get_map_set gs _ 0 k g' x hx, ?_⟩
      rw [hsc k hk0, if_neg hk0]
      exact hsx.other hk0 rfl
  · show WgAt ty.1 a.wg w' ((0 : Nat) * KK + ((0 : Nat) : Int)) ((0 : Nat) : Int)
    have : WgAt ty.1 a.wg w' 0 0 := by
      unfold WgAt
      rw [hheap, ← hw]
      simp
    exact WgAt.cast this (by simp) (by simp)
  · show c ∈ a.wg :: a.ch
    simp [N.ckch c hc]
  · have hc : c = a.wg ∨ c ∈ a.ch := by simpa [Abs.mkg] using hc
    rcases hc with rfl | hc
    · intro hm
      have := N.tsz _ (.inl hm)
      omega
    · exact N.apart c hc
  · intro hm
    have hm : b = a.wg ∨ b ∈ a.G := by simpa [Abs.mkg] using hm
    rcases hm with rfl | hm
    · have := N.tsk k _ hb; omega
    · exact N.offG k b hb hm
  · have hb : b ∈ T ∨ (b = a.wg ∨ b ∈ a.ch) ∨ (b = a.wg ∨ b ∈ a.G) := by simpa [Abs.mkg] using hb
    rcases hb with hb | (rfl | hb) | (rfl | hb)
    · have := N.tsz b (.inl hb); omega
    · omega
    · have := N.tsz b (.inr (.inl hb)); omega
    · omega
    · have := N.tsz b (.inr (.inr hb)); omega
  · have := N.tsk k b hb; omega
  · have h1 : k ≠ 0 := by rintro rfl; rw [hF0] at hfk; cases hfk
    obtain ⟨x, hx, hsx, hno⟩ := hF k h1 hk
    rw [hsc k h1] at hsk
    have := (hno hfk).2 p ds hsk
    cases p <;> exact this
  · have h1 : k ≠ 0 := by rintro rfl; rw [hF0] at hfk; cases hfk
    have h3 : l ≠ 0 := by rintro rfl; rw [hF0] at hfl; cases hfl
    obtain ⟨x, hx, hsx, hno⟩ := hF k h1 hk
    obtain ⟨y, hy, hsy, hno'⟩ := hF l h3 hl
    rw [hsc k h1] at hsk
    rw [hsc l h3] at hsl
    exact N.noMeet k l p c u u' ds es hk hl (hno hfk).1 (hno' hfl).1 hsk hgv hsl

/-- A CHANNEL IS MADE. -/
theorem Net.atMkc (L : Law K rank) (N : Net P z ty Post K a f T Ts gs w t) {c : Nat} {al : List Do} {sl : Option (Nat × Nat)} {g : Goroutine} (hg : gs[0]? = some g) (hsi : a.sc 0 = .mkc c :: al)
    (hat : AtMkc P c (FollowM P z ty a.wg Post al T (c :: a.ch) a.G) g w) :
    ∃ m' ops μ', runT P (crowd gs w sl) 0 = (.next m', ops) ∧ Lt2 μ' (mu rank a f) ∧ Inv P z ty Post K rank μ' m' (t ++ ops) := by
  obtain ⟨hrun, hw, g', w', s, r, tm, hst, hheap, hnext⟩ := hat
  have hpos := L.pos a N.k
  obtain ⟨_, hoff, hK, hrk⟩ := L.mkc a 0 c al N.k hpos hsi
  have hlt : 0 < gs.size := by rw [N.size]; exact hpos
  have hne : a.sc 0 ≠ [] := by rw [hsi]; simp
  have hstep := runT_crowd_go (sl := sl) hg (by simpa using hst)
  have hsz : w'.heap.size = w.heap.size + 1 := by rw [hheap]; simp
  have hold : ∀ b, b < w.heap.size → w'.heap[b]? = w.heap[b]? := fun b hb => by rw [hheap, Array.getElem?_push, if_neg (by omega)]
  obtain ⟨n0, h0⟩ := sit_of_NN (P := P) (z := z) (ty := ty) (Post := Post) (Wg := a.wg) (T := T) (ch := c :: a.ch) (G := a.G) (Ts := Ts) (i := 0) (d := a.df 0) (al := al) (g := g') (w := w') (by simpa [NN] using hnext)
  have hsc : ∀ k, k ≠ 0 → (a.mkc c al).sc k = a.sc k := fun k h1 => put_ne _ _ h1
  have hsc0 : (a.mkc c al).sc 0 = al := by show put a.sc 0 al 0 = al; exact put_same _ _ _
  have hchan : ∀ c, c ∈ a.ck → ∃ s r tm, w'.heap[c]? = some (.chan 0 #[] (a.shut c) s r tm) := fun c hc => by
    rw [hold c (N.tsz c (.inr (.inl (N.ckch c hc))))]; exact N.chan c hc
  have hRW : ∀ k, k ≠ 0 → k < a.n → RR ty a.wg a.ch Ts k w w' := fun k k0 hk => by
    have : RW ty a.wg (Ts k) w w' := ⟨fun b hb => hold b (N.tsk k b hb), fun _ ⟨st, sm, h⟩ => ⟨st, sm, (hold _ (Array.getElem?_eq_some_iff.1 h).1).trans h⟩⟩
    simpa [RR, k0] using this
  have hchan' : ∀ c', c' ∈ (a.mkc c al).ck → ∃ s r tm, w'.heap[c']? = some (.chan 0 #[] ((a.mkc c al).shut c') s r tm) := fun c' hc' => by
    have hc' : c' = c ∨ c' ∈ a.ck := by simpa [Abs.mkc] using hc'
    rcases hc' with rfl | hc'
    · refine ⟨s, r, tm, ?_⟩
      show _ = some (Obj.chan 0 #[] (a.shut c') s r tm)
      rw [hoff, hheap, ← hw, Array.getElem?_push_size]
    · exact hchan c' hc'
  have oth : ∀ k, k ≠ 0 → k < a.n → ∃ fk x, gs[k]? = some x ∧ Sit P z ty Post a.wg T a.ch a.G Ts k (a.df k) (a.sc k) fk (woken P g g' w' x) w' ∧ (fk = none → f k = none ∧ ∀ p al, a.sc k = .pr p :: al → Blk (a.mkc c al) p) := by
    intro k hk0 hk
    obtain ⟨x, hx, _⟩ := N.sit k hk
    have hb : ∀ p bs, f k = none → a.sc k = .pr p :: bs → Blk (a.mkc c al) p := fun p bs hfk hsk => by
      have hb := N.opn k p bs hk hfk hsk
      cases p <;> exact hb
    obtain ⟨fk, h1, _, h3⟩ := N.others L hK rfl (hsc k hk0) (w' := w') hchan' (hRW k hk0 hk) hk hx g g' fun p bs hfk hsk => .inl (hb p bs hfk hsk)
    exact ⟨fk, x, hx, h1, fun e => ⟨(h3 e).1, fun p bs hsk => hb p bs (h3 e).1 hsk⟩⟩
  classical
  let F : Nat → Option Nat := fun k => if h : k ≠ 0 ∧ k < a.n then (oth k h.1 h.2).choose else some n0
  have hF : ∀ k, k ≠ 0 → k < a.n → ∃ x, gs[k]? = some x ∧ Sit P z ty Post a.wg T a.ch a.G Ts k (a.df k) (a.sc k) (F k) (woken P g g' w' x) w' ∧ (F k = none → f k = none ∧ ∀ p al, a.sc k = .pr p :: al → Blk (a.mkc c al) p) := by
    intro k h1 h2
    have e : F k = (oth k h1 h2).choose := by simp only [F]; rw [dif_pos ⟨h1, h2⟩]
    rw [e]
    exact (oth k h1 h2).choose_spec
  have hF0 : F 0 = some n0 := by simp only [F]; rw [dif_neg (fun h => h.1 rfl)]
  have htr : Tr Ts (a.mkc c al) w'.heap.size t := (N.tr.weak (by omega)).abs rfl rfl rfl rfl rfl rfl rfl rfl (out_put hne rfl rfl)
  refine ⟨_, _, mu rank (a.mkc c al) F, hstep, lt_rank hrk, ?_⟩
  rw [evs_nil, Array.append_empty]
  refine Inv.mk (T := T) (Ts := Ts) (f := F) sl ⟨hK, (by rw [Array.size_setIfInBounds, Array.size_map]; exact N.size), fun k hk => ?_, hchan', fun hon => ?_, fun c' hc => ?_, N.sub, fun c' hc => ?_, N.offG, fun b hb => ?_, fun k b hb => ?_, fun k p ds hk hfk hsk => ?_, fun k l p c u u' ds es hk hl hfk hfl hsk hgv hsl => ?_, htr⟩
  · by_cases hk0 : k = 0
    · subst hk0
      exact ⟨g', by simp [hlt], by rw [hsc0, hF0]; exact h0⟩
    · obtain ⟨x, hx, hsx, _⟩ := hF k hk0 hk
      refine ⟨_, get_map_set gs _ 0 k g' x hx, ?_⟩
      rw [hsc k hk0, if_neg hk0]
      exact hsx.other hk0 rfl
  · obtain ⟨h1, h2, h3⟩ := N.grp hon
    refine ⟨(hold a.wg (N.tsz a.wg (.inr (.inl h2)))).trans h1, ?_, h3⟩
    show a.wg ∈ c :: a.ch
    simp [h2]
  · have hc : c' = c ∨ c' ∈ a.ck := by simpa [Abs.mkc] using hc
    show c' ∈ c :: a.ch
    rcases hc with hc | hc
    · simp [hc]
    · simp [N.ckch c' hc]
  · have hc : c' = c ∨ c' ∈ a.ch := by simpa [Abs.mkc] using hc
    rcases hc with rfl | hc
    · intro hm
      have := N.tsz _ (.inl hm)
      omega
    · exact N.apart c' hc
  · have hb : b ∈ T ∨ (b = c ∨ b ∈ a.ch) ∨ b ∈ a.G := by simpa [Abs.mkc] using hb
    rcases hb with hb | (rfl | hb) | hb
    · have := N.tsz b (.inl hb); omega
    · omega
    · have := N.tsz b (.inr (.inl hb)); omega
    · have := N.tsz b (.inr (.inr hb)); omega
  · have := N.tsk k b hb; omega
  · have h1 : k ≠ 0 := by rintro rfl; rw [hF0] at hfk; cases hfk
    obtain ⟨x, hx, hsx, hno⟩ := hF k h1 hk
    rw [hsc k h1] at hsk
    have := (hno hfk).2 p ds hsk
    cases p <;> exact this
  · have h1 : k ≠ 0 := by rintro rfl; rw [hF0] at hfk; cases hfk
    have h3 : l ≠ 0 := by rintro rfl; rw [hF0] at hfl; cases hfl
    obtain ⟨x, hx, hsx, hno⟩ := hF k h1 hk
    obtain ⟨y, hy, hsy, hno'⟩ := hF l h3 hl
    rw [hsc k h1] at hsk
    rw [hsc l h3] at hsl
    exact N.noMeet k l p c u u' ds es hk hl (hno hfk).1 (hno' hfl).1 hsk hgv hsl

/-- AT THE SEMAPHORE, which is not up: goroutine 0 waits. -/
theorem Net.atAcs (L : Law K rank) (N : Net P z ty Post K a f T Ts gs w t) {i n : Nat} {al : List Do} {sl : Option (Nat × Nat)} {g : Goroutine} (hi : i < a.n) (hg : gs[i]? = some g) (hf : f i = some n) (hsi : a.sc i = .pr .acs :: al) (hsm : a.sm = 0)
    (hat : ∀ w₁, RR ty a.wg a.ch Ts i w w₁ → At P z ty Post a.wg T a.ch a.G Ts i (a.df i) .acs al g w₁) :
    ∃ m' ops μ', runT P (crowd gs w sl) i = (.next m', ops) ∧ Lt2 μ' (mu rank a f) ∧ Inv P z ty Post K rank μ' m' (t ++ ops) := by
  obtain ⟨rfl, ho, _, _⟩ := L.acs a i al N.k hi hsi
  obtain ⟨hrun, hof, hbl, _⟩ := hat w (RR.refl _ _)
  have hW := (N.grp ho).1
  rw [hsm] at hW
  have hst := hbl ⟨_, WgAt.cast hW rfl (by simp)⟩
  have hwk : ∀ x, woken P g { g with status := .blocked } w x = x := by intro x; unfold woken; simp
  have hstep := runT_crowd_go (sl := sl) hg (by simpa using hst)
  have hmap : gs.map (woken P g { g with status := .blocked } w) = gs := by
    apply Array.ext_getElem?
    intro k
    rw [Array.getElem?_map]
    cases gs[k]? with
    | none => rfl
    | some x => simp [hwk]
  rw [hmap] at hstep
  obtain ⟨f', hl, hN⟩ := N.parks (g' := { g with status := .blocked }) L hi hf hsi ⟨g, rfl, hrun, hof, hat⟩ hsm (fun c' u j v' bs h => by rcases h with h | ⟨_, _, h⟩ <;> cases h) (fun c' u j q v' bs h => by cases h) N.tr
  refine ⟨_, _, _, hstep, hl, ?_⟩
  rw [evs_nil, Array.append_empty]
  exact .mk sl hN

theorem runT_crowd_ended {i : Nat} {g : Goroutine} {o : Outcome} {w w' : World} {sl : Option (Nat × Nat)} {es : Array Event} (hi : gs[i]? = some g) (h : stepG P (i == 0) g w = .ended o w' es) :
    runT P (crowd gs w sl) i = (.ended o w', MemOp.ofEvents i g.frame.fn g.frame.place es) := by
  obtain ⟨hlt, rfl⟩ := Array.getElem?_eq_some_iff.1 hi
  have hsw := swapAt_of_lt hlt { (default : Goroutine) with status := .finished }
  show runT P { world := w, gs := gs, rest := { timers := #[], alone := none, slice := sl } } i = _
  unfold runT
  simp only [hsw, h, GStep.es]

/-- WHERE GOROUTINE 0 STANDS AT ITS RETURN, all others having ended or leaving. -/
theorem Net.good (L : Law K rank) (N : Net P z ty Post K a f T Ts gs w t) {Q : Value → World → Prop} {d : Nat} {sl sl' : Option (Nat × Nat)} {g : Goroutine} {v : Value} {es : Array Event} (hg : gs[0]? = some g) (hsi : a.sc 0 = [])
    (hst : stepG P true g (w.at d) = .ended (.done v) (w.at d) es) (hes : ∀ e ∈ es, EvM T a.G w.heap.size e) (hpost : Q v (w.at d)) :
    ∃ o w' ops, runT P (crowd gs (w.at d) sl') 0 = (.ended o w', ops) ∧ Go.Conc.Good P Q (crowd gs w sl) o w' (t ++ ops) := by
  have hpos := L.pos a N.k
  have hlast := L.last a N.k hsi
  have htr := N.evs L (fn := g.frame.fn) (pos := g.frame.place) (es := es) hpos (.inl rfl) (by simpa [EE] using hes)
  refine ⟨_, _, _, runT_crowd_ended hg (by simpa using hst), v, rfl, hpost, htr.ct.nr, htr.handed hpos fun j hj j0 => (hlast j hj j0).2, ⟨?_, rfl⟩, ?_⟩
  · intro x hx
    obtain ⟨k, hk⟩ := List.getElem?_of_mem hx
    rw [List.getElem?_drop] at hk
    have hk' : gs[1 + k]? = some x := by rw [← hk]; simp [crowd]
    have hlt : 1 + k < a.n := N.lt hk'
    obtain ⟨y, hy, hs⟩ := N.sit (1 + k) hlt
    rw [hk'] at hy
    cases hy
    rw [(hlast (1 + k) hlt (by omega)).1] at hs
    generalize f (1 + k) = o at hs
    cases hs with
    | ret h _ => omega
    | quit _ h => exact ⟨_, h.leaves⟩
  · intro i x hi i0
    have hi' : gs[i]? = some x := hi
    have hlt : i < a.n := N.lt hi'
    obtain ⟨y, hy, hs⟩ := N.sit i hlt
    rw [hi'] at hy
    cases hy
    rw [(hlast i hlt i0).1] at hs
    generalize f i = o at hs
    cases hs with
    | ret h _ => exact absurd h i0
    | quit _ h =>
      have hd : (t ++ MemOp.ofEvents 0 g.frame.fn g.frame.place es).deaf i (t ++ MemOp.ofEvents 0 g.frame.fn g.frame.place es).size = a.df i := htr.df i hlt
      exact ⟨_, by rw [hd]; exact h.hears _⟩

/-- THE THEOREM: a net whose abstract law holds runs, on every tape, till goroutine 0 stands at the end of its script. -/
theorem net_to (L : Law K rank) : ∀ (μ : Nat × Nat) {a : Abs} {f : Nat → Option Nat} {T : List Nat} {Ts : Nat → List Nat} {gs : Array Goroutine} {w : World} {t : Trace} (N : Net P z ty Post K a f T Ts gs w t) (sl : Option (Nat × Nat)), mu rank a f = μ →
    ∃ n a' f' T' Ts' gs' w' sl' t' g, runNT P n (crowd gs w sl) t = (.next (crowd gs' w' sl'), t') ∧ Net P z ty Post K a' f' T' Ts' gs' w' t' ∧ a'.sc 0 = [] ∧ gs'[0]? = some g ∧ ∀ w₁, RC ty a'.wg a'.ch w' w₁ → AtEnd Post T' a'.ch a'.G g w₁ := by
  intro μ
  induction μ using (Prod.lex Nat.lt_wfRel Nat.lt_wfRel).wf.induction with
  | _ μ ih =>
  intro a f T Ts gs w t N sl hμ
  by_cases hend : a.sc 0 = [] ∧ ∃ g, gs[0]? = some g ∧ ∀ w₁, RC ty a.wg a.ch w w₁ → AtEnd Post T a.ch a.G g w₁
  · obtain ⟨h1, g, h2, h3⟩ := hend
    exact ⟨0, a, f, T, Ts, gs, w, sl, t, g, rfl, N, h1, h2, h3⟩
  suffices h : ∃ m' ops μ', stepT P (crowd gs w sl) = (.next m', ops) ∧ Lt2 μ' (mu rank a f) ∧ Inv P z ty Post K rank μ' m' (t ++ ops) by
    obtain ⟨m', ops, μ', h1, h2, h3⟩ := h
    cases h3 with
    | @mk a1 f1 T1 Ts1 gs1 w1 _ sl1 N1 =>
    obtain ⟨n, x⟩ := ih _ (hμ ▸ h2) N1 sl1 rfl
    refine ⟨n + 1, ?_⟩
    rw [runNT_succ_next h1]
    exact x
  obtain ⟨i, g, d, sl', hg, hrun, hst⟩ := crowd_pick (P := P) (w := w) (sl := sl) N.awake (N.someone L)
  have hi : i < a.n := N.lt hg
  rw [hst]
  have Nd := N.at d
  obtain ⟨g0, hg0, hs⟩ := N.sit i hi
  rw [hg] at hg0
  cases hg0
  -- an own step that is goroutine 0's
  have own0 : ∀ {n n' : Nat} {g' : Goroutine} {w' : World} {es : Array Event}, i = 0 → f i = some n → n' < n → stepG P true g (w.at d) = .go g' w' es → DM ty a.wg T a.ch a.G (w.at d) w' es → Sit P z ty Post a.wg T a.ch a.G Ts i (a.df i) (a.sc i) (some n') g' w' →
      ∃ m' ops μ', runT P (crowd gs (w.at d) sl') i = (.next m', ops) ∧ Lt2 μ' (mu rank a f) ∧ Inv P z ty Post K rank μ' m' (t ++ ops) := by
    intro n n' g' w' es h0 hf hn hgo ⟨hT, hch, hsz, hes, hlv⟩ hsit
    subst h0
    exact Nd.own L hi hg hf hn (sl := sl') hgo hch hsz (fun j hj hjn => by
      have : RW ty a.wg (Ts j) (w.at d) w' := ⟨fun b hb => hT b (N.sub j hj hjn b hb), hlv⟩
      simpa [RR, hj] using this) hsit (Nd.tr.own0 (T := T) hi N.offG (fun k k0 hk b hb => N.sub k k0 hk b hb) hsz hes)
  generalize hsc : a.sc i = sci at hs
  generalize hfi : f i = fi at hs
  cases hs with
  | ret h0 h =>
    subst h0
    rcases h.cases with hstop | ⟨n', rfl, hstep⟩
    · exact absurd ⟨hsc, g, hg, hstop⟩ hend
    · obtain ⟨g', w', es, hgo, hd, hg'⟩ := hstep _ (RC.at _ _ d)
      exact own0 rfl hfi (Nat.lt_succ_self _) hgo hd (by rw [hsc]; exact .ret rfl hg')
  | fork h0 h =>
    subst h0
    rcases h.cases with hstop | ⟨n', rfl, hstep⟩
    · exact Nd.atFork L (sl := sl') hg hsc (hstop _ (RC.at _ _ d))
    · obtain ⟨g', w', es, hgo, hd, hg'⟩ := hstep _ (RC.at _ _ d)
      exact own0 rfl hfi (Nat.lt_succ_self _) hgo hd (by rw [hsc]; exact .fork rfl hg')
  | mkg h0 h =>
    subst h0
    rcases h.cases with hstop | ⟨n', rfl, hstep⟩
    · exact Nd.atMkg L (sl := sl') hg hsc (hstop _ (RC.at _ _ d))
    · obtain ⟨g', w', es, hgo, hd, hg'⟩ := hstep _ (RC.at _ _ d)
      exact own0 rfl hfi (Nat.lt_succ_self _) hgo hd (by rw [hsc]; exact .mkg rfl hg')
  | mkc h0 h =>
    subst h0
    rcases h.cases with hstop | ⟨n', rfl, hstep⟩
    · exact Nd.atMkc L (sl := sl') hg hsc (hstop _ (RC.at _ _ d))
    · obtain ⟨g', w', es, hgo, hd, hg'⟩ := hstep _ (RC.at _ _ d)
      exact own0 rfl hfi (Nat.lt_succ_self _) hgo hd (by rw [hsc]; exact .mkc rfl hg')
  | quit h0 h =>
    rename_i n
    cases n with
    | zero => rw [h.1] at hrun; cases hrun
    | succ n =>
      rcases h with ⟨h, _⟩ | ⟨_, g', es, hmute, hgo, hq⟩
      · rw [h] at hrun; cases hrun
      · have hb : (i == 0) = false := by simpa using h0
        obtain ⟨hK', hrk'⟩ := L.quit a i (deafBehind (a.df i) es) N.k hi h0 hsc
        have hes : ∀ e ∈ es, e.loc = .mark .disable ∨ e.loc = .mark .enable := fun e he => by
          have := hmute e he
          obtain ⟨loc, wr, sy⟩ := e
          cases loc with
          | mark m => cases m <;> simp_all [Event.mute]
          | _ => simp_all [Event.mute]
        have htr := Nd.tr.bk (fn := g.frame.fn) (pos := g.frame.place) (es := es) (i := i) N.offG hi (Nat.le_refl _) (fun b hb => N.tsz b (.inr (.inr hb))) (fun e he => (hes e he).imp id .inl)
          (fun _ _ j e he => .inl (by
            have hem : e ∈ es := Array.mem_of_getElem? he
            rcases hes e hem with h | h <;> rw [Go.ConcR.ofEvent_loc_mark h] <;> rfl))
        obtain ⟨f', hN, hfi', hfo⟩ := Nd.turn (a' := { a with df := put a.df i (deafBehind (a.df i) es) }) (n' := n) (g := g) (g' := g') (w' := w.at d) L hi hg hK' rfl rfl rfl rfl rfl (fun _ _ => rfl) (fun k hk => put_ne _ _ hk) N.chan (fun ho => ⟨ho, (N.grp ho).1⟩) (Nat.le_refl _) (fun k _ _ => RR.refl _ _)
          (fun k p al _ hk hfk hsk => .inl (by have := N.opn k p al hk hfk hsk; cases p <;> exact this)) (by
            show Sit P z ty Post a.wg T a.ch a.G Ts i (put a.df i (deafBehind (a.df i) es) i) (a.sc i) (some n) g' (w.at d)
            rw [put_same, hsc]; exact .quit h0 hq) htr
        refine ⟨_, _, _, runT_crowd_go hg (by rw [hb]; exact hgo _), ?_, .mk sl' hN⟩
        have := lt_own (rank := rank) (f' := f') hi hfi hfi' (Nat.lt_succ_self n) fun k hki hk => by
          rcases hfo k hki hk with h | ⟨h1, h2, p, al, h3, h4⟩
          · exact .inl h
          · rcases h4 with rfl | h4
            · exact .inr ⟨(L.acs a k al N.k hk h3).1, h1, h2⟩
            · exact absurd (by have := N.opn k p al hk h1 h3; cases p <;> exact this) h4
        unfold mu at this ⊢
        rw [hrk']
        exact this
  | run h =>
    rename_i p al n
    rcases h.cases with hstop | ⟨n', rfl, hstep⟩
    · have hat := hstop _ (RR.at _ _ d)
      cases p with
      | snd c v => exact Nd.atSnd L hi hg hfi hsc hat
      | rcv c v => exact Nd.atRcv L hi hg hfi hsc hat
      | eof c => exact Nd.atEof L hi hg hfi hsc fun w₁ h₁ => hstop _ ((RR.at _ _ d).trans h₁)
      | sel c v s k => exact Nd.atSel L hi hg hfi hsc fun w₁ h₁ => hstop _ ((RR.at _ _ d).trans h₁)
      | cls c => exact Nd.atCls L hi hg hsc hat
      | say m => exact Nd.atSay L hi hg hsc hat
      | inc => exact Nd.atGrp L hi hg hsc (.inl rfl) hat
      | dec k => exact Nd.atGrp L hi hg hsc (.inr (.inl ⟨k, rfl⟩)) hat
      | ldl => exact Nd.atGrp L hi hg hsc (.inr (.inr (.inl rfl))) hat
      | clr => exact Nd.atGrp L hi hg hsc (.inr (.inr (.inr (.inl rfl)))) hat
      | rls => exact Nd.atGrp L hi hg hsc (.inr (.inr (.inr (.inr (.inl rfl))))) hat
      | wld k => exact Nd.atGrp L hi hg hsc (.inr (.inr (.inr (.inr (.inr (.inl ⟨k, rfl⟩)))))) hat
      | cas vs k => exact Nd.atGrp L hi hg hsc (.inr (.inr (.inr (.inr (.inr (.inr (.inl ⟨vs, k, rfl⟩))))))) hat
      | acs =>
        by_cases hsm : a.sm = 1
        · exact Nd.atGrp L hi hg hsc (.inr (.inr (.inr (.inr (.inr (.inr (.inr (.inl ⟨rfl, hsm⟩)))))))) hat
        · have := (L.acs a i al N.k hi hsc).2.2.1
          exact Nd.atAcs L hi hg hfi hsc (by omega) fun w₁ h₁ => hstop _ ((RR.at _ _ d).trans h₁)
      | wl4 => exact Nd.atGrp L hi hg hsc (.inr (.inr (.inr (.inr (.inr (.inr (.inr (.inr rfl)))))))) hat
    · obtain ⟨g', w', es, hgo, hd, hg'⟩ := hstep _ (RR.at _ _ d)
      by_cases h0 : i = 0
      · exact own0 h0 hfi (Nat.lt_succ_self _) (by subst h0; simpa using hgo) (by simpa [DD, h0] using hd) (by rw [hsc]; exact .run hg')
      · have hd' : DWp (Ts i) p (w.at d) w' es := by simpa [DD, h0] using hd
        by_cases hq : p.quiet = true
        · have hd2 : D0 (w.at d) w' es := by simpa [DWp, hq] using hd'
          obtain ⟨rfl, rfl⟩ := hd2
          exact Nd.own L hi hg hfi (Nat.lt_succ_self n') (sl := sl') hgo (fun _ _ => rfl) (Nat.le_refl _) (fun j _ _ => RR.refl _ _) (by rw [hsc]; exact .run hg') (by rw [evs_nil, Array.append_empty]; exact N.tr)
        · have hd2 : DW (Ts i) (w.at d) w' es := by simpa [DWp, hq] using hd'
          obtain ⟨rfl, hes⟩ := hd2
          exact Nd.own L hi hg hfi (Nat.lt_succ_self n') (sl := sl') hgo (fun _ _ => rfl) (Nat.le_refl _) (fun j _ _ => RR.refl _ _) (by rw [hsc]; exact .run hg')
            (Nd.evs L hi (.inr ⟨_, _, hsc, by simpa using hq⟩) (by simpa [EE, h0] using hes))
  | park h =>
    have := (Sit.park (i := i) (w := w) h).status
    rcases this with ⟨_, n, h⟩ | ⟨h, _⟩ | ⟨h, _⟩
    · cases h
    · rw [h] at hrun; cases hrun
    · rw [h] at hrun; cases hrun

end
end Go.Proofs.Ytplndihadjfliaa.Mix
