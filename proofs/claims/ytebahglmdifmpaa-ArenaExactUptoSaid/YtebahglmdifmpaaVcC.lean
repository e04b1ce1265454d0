/- From a function's plain statement to what a call of it does. -/
import Derived.Test.YtebahglmdifmpaaVcP
set_option linter.unusedSimpArgs false
set_option linter.unusedVariables false
namespace Go.Proofs.Ytebahglmdifmpaa.Vc
open Go

section
variable {P : Program} {n : Nat}

def liftQ (n : Nat) (Q : Exit → Env → World → Prop) : Exit → Act → World → Prop := fun ex a w =>
  match ex with
  | .panic _ => False
  | .outgrown => False
  | ex => ∃ e, Rep n a e ∧ Q ex e w
theorem calm_lift (Q : Exit → Env → World → Prop) : Calm (liftQ n Q) := ⟨fun _ _ _ h => h, fun _ _ h => h⟩

theorem atV_spec {α : Type} {s : Shape} {f : s.Fn α} {F : Value → α → Prop} {G : α → Prop} {v : Value} (hall : s.allV f F) (hat : s.atV f v G) : ∃ x, F v x ∧ G x := by
  cases s <;> cases v <;> simp only [Shape.atV] at hat <;> simp only [Shape.allV] at hall
  case int.int k k' x =>
    split at hat
    · rename_i hk
      have : k = k' := by simpa using hk
      subst this
      exact ⟨_, hall x, hat⟩
    · exact hat.elim
  case flt.float k k' x =>
    split at hat
    · rename_i hk
      have : k = k' := by simpa using hk
      subst this
      exact ⟨_, hall x, hat⟩
    · exact hat.elim
  case slice.slice A m c => exact ⟨_, hall A m c, hat⟩
  case blk.pointer p =>
    split at hat
    · exact ⟨_, hall _ _, hat⟩
    · exact hat.elim
  all_goals exact ⟨_, hall _, hat⟩
theorem appV_spec {α : Type} : ∀ {l : List (Nat × Shape)} {I : FnV l α} {e0 e : Env} {F : Env → α → Prop} {G : α → Prop}, allV l I e0 F → appV l I e G →
    ∃ e1 x, F e1 x ∧ G x ∧ ∀ t, e1 t = if t ∈ l.map (·.1) then e t else e0 t := by
  intro l
  induction l with
  | nil =>
    intro I e0 e F G hall hat
    exact ⟨e0, I, hall, hat, fun t => by simp⟩
  | cons p l ih =>
    obtain ⟨t0, s⟩ := p
    intro I e0 e F G hall hat
    obtain ⟨I', h1, h2⟩ := atV_spec (F := fun v I' => allV l I' (upd e0 t0 v) F) (G := fun I' => appV l I' e G) hall hat
    obtain ⟨e1, x, h3, h4, h5⟩ := ih h1 h2
    refine ⟨e1, x, h3, h4, fun t => ?_⟩
    rw [h5 t]
    by_cases ht : t ∈ l.map (·.1)
    · rw [if_pos ht, if_pos (by simp only [List.map_cons, List.mem_cons]; exact .inr ht)]
    · rw [if_neg ht]
      by_cases h0 : t = t0
      · subst h0
        rw [upd_same, if_pos (by simp)]
      · rw [upd_other _ _ _ _ h0, if_neg (by simp only [List.map_cons, List.mem_cons]; rintro (h | h); exact h0 h; exact ht h)]
theorem memN_iff (l : List Nat) (t : Nat) : memN l t = true ↔ t ∈ l := by
  induction l with
  | nil => simp [memN]
  | cons x l ih =>
    unfold memN
    split
    · rename_i h
      have := Nat.eq_of_beq_eq_true h
      simp [this]
    · rename_i h
      have : t ≠ x := fun e => by subst e; simp at h
      rw [ih]
      simp [this]
theorem valsE_spec {l : List Nat} {e e' : Env} (h : valsE l e' = valsE l e) : ∀ t ∈ l, e' t = e t := by
  intro t ht
  have := List.map_inj_left.1 h t ht
  exact this
theorem keep_back {an : Ann} {e e0 e1 : Env} (hk : ∀ t ∈ an.keep, e0 t = e t) (h1 : ∀ t, e1 t = if t ∈ an.live.map (·.1) then e0 t else keepE e an.keep e0 t) : e1 = e0 := by
  funext t
  rw [h1 t]
  split
  · rfl
  · unfold keepE
    split
    · rename_i hm
      exact (hk t ((memN_iff _ _).1 hm)).symm
    · rfl

theorem wp_loop' {Q : Exit → Act → World → Prop} {c : Code} (I : Act → World → Nat → Prop) {a : Act} {w : World} {k : Nat} (h₀ : I a w k)
    (round : ∀ a w n, I a w n → c.wp P (Exit.then (fun a' w' => ∃ m, m < n ∧ I a' w' m) Q) a w) : (Code.loop c).wp P Q a w := by
  intro b kk cs
  have key : ∀ n a w, I a w n → ∃ e a' w', Q e a' w' ∧ Arrives P (lone (b.at a (.code c :: .inLoop c :: kk)) cs w) b kk cs e a' w' := by
    intro n
    induction n using Nat.strongRecOn with
    | _ n ih =>
      intro a w hI
      obtain ⟨e, a₁, w₁, hq, harr⟩ := round a w n hI b (.inLoop c :: kk) cs
      cases e with
      | normal =>
        obtain ⟨m, hlt, hI₁⟩ := hq
        obtain ⟨e₂, a₂, w₂, hq₂, harr₂⟩ := ih m hlt a₁ w₁ hI₁
        exact ⟨e₂, a₂, w₂, hq₂, .of_steps (Steps.trans harr (.one step_inLoop)) harr₂⟩
      | exit id => exact ⟨_, a₁, w₁, hq, .pass (x := .inLoop c) rfl (fun _ _ => .inl (by simp)) harr⟩
      | goto l => exact ⟨_, a₁, w₁, hq, .pass (x := .inLoop c) rfl (fun _ _ => .inl (by simp)) harr⟩
      | ret => exact ⟨_, a₁, w₁, hq, .pass (x := .inLoop c) rfl (fun _ _ => .inl (by simp)) harr⟩
      | panic ch => exact ⟨_, a₁, w₁, hq, .pass (x := .inLoop c) rfl (fun _ _ => .inl (by simp)) harr⟩
      | outgrown => exact ⟨_, a₁, w₁, hq, .pass (x := .inLoop c) rfl (fun _ _ => .inl (by simp)) harr⟩
  obtain ⟨e, a', w', hq, harr⟩ := key _ a w h₀
  exact ⟨e, a', w', hq, .of_steps (.one step_loop) harr⟩

theorem wpV_sound (hmix : P.follows .mixedOrders = true) {AL AC : Nat → Option Ann} : ∀ (c : Code) (Q : Exit → Env → World → Prop) (e : Env) (a : Act) (w : World), dstsOk n c = true → Rep n a e →
    wpV P AL AC c Q e w → c.wp P (liftQ n Q) a w := by
  intro c
  induction c with
  | skip => intro Q e a w _ hr h; exact wp_skip ⟨e, hr, h⟩
  | label l => intro Q e a w _ hr h; exact wp_label ⟨e, hr, h⟩
  | region id ops draw =>
    intro Q e a w hd hr h
    refine regionV_sound hmix (calm_lift Q) (K := Q .normal) (n := n) ?_ (fun a w ⟨e, h1, h2⟩ => ⟨e, h1, h2⟩) hr h
    intro o ho d hod
    have := List.all_eq_true.1 hd o ho
    simp only [hod] at this
    exact Nat.lt_of_lt_of_le (Nat.lt_succ_self _) (Nat.le_of_ble_eq_true this)
  | seq x y ihx ihy =>
    intro Q e a w hd hr h
    simp only [dstsOk, Bool.and_eq_true] at hd
    unfold wpV at h
    split at h
    · refine wp_seq (wp_mono (ihx _ e a w hd.1 hr h) ?_)
      intro ex a' w' hq
      cases ex with
      | normal => obtain ⟨e', h1, h2⟩ := hq; exact ihy Q e' a' w' hd.2 h1 h2
      | panic ch => exact hq
      | outgrown => exact hq
      | exit id => exact hq
      | goto l => exact hq
      | ret => exact hq
    · rename_i an _
      obtain ⟨M, h1, h2⟩ := h
      refine wp_seq (wp_mono (ihx _ e a w hd.1 hr h1) ?_)
      intro ex a' w' hq
      cases ex with
      | normal =>
        obtain ⟨e', g1, g2, g3⟩ := hq
        obtain ⟨e1, J, g4, g5, g6⟩ := appV_spec (h2 e') g3
        have : e1 = e' := keep_back (valsE_spec g2) g6
        subst this
        exact ihy Q e1 a' w' hd.2 g1 (g4 w' g5)
      | panic ch => exact hq
      | outgrown => exact hq
      | exit id => exact hq
      | goto l => exact hq
      | ret => exact hq
  | cond x y z ihy ihz =>
    intro Q e a w hd hr h
    simp only [dstsOk, Bool.and_eq_true] at hd
    unfold wpV at h
    split at h
    · rename_i t ht
      refine wp_cond (t := t) (by rw [hr.eval]; exact ht) ?_
      cases t
      · exact ihz Q e a w hd.2 hr h
      · exact ihy Q e a w hd.1 hr h
    · exact h.elim
  | block id c ih =>
    intro Q e a w hd hr h
    refine wp_block (wp_mono (ih _ e a w hd hr h) ?_)
    intro ex a' w' hq
    cases ex with
    | normal => exact hq
    | panic ch => exact hq
    | outgrown => exact hq
    | goto l => exact hq
    | ret => exact hq
    | exit i =>
      obtain ⟨e', h1, h2⟩ := hq
      simp only [Exit.inBlock]
      by_cases hi : i = id
      · subst hi
        rw [if_pos rfl]
        refine ⟨e', h1, ?_⟩
        have : Nat.beq i i = true := Nat.beq_refl i
        simpa [this] using h2
      · rw [if_neg hi]
        refine ⟨e', h1, ?_⟩
        have : Nat.beq i id = false := by
          cases hb : Nat.beq i id with
          | false => rfl
          | true => exact absurd (Nat.eq_of_beq_eq_true hb) hi
        simpa [this] using h2
  | loop c ih =>
    intro Q e a w hd hr h
    unfold wpV at h
    split at h
    · exact h.elim
    · rename_i an _
      obtain ⟨I, ⟨k, h0⟩, h1⟩ := h
      refine wp_loop' (fun a' w' n' => ∃ e0, Rep n a' e0 ∧ (∀ t ∈ an.keep, e0 t = e t) ∧ appV an.live I e0 fun J => J w' n') ⟨e, hr, fun _ _ => rfl, h0⟩ ?_
      rintro a' w' n' ⟨e0, g1, g2, g3⟩
      obtain ⟨e1, J, g4, g5, g6⟩ := appV_spec (h1 e0) g3
      have : e1 = e0 := keep_back g2 g6
      subst this
      refine wp_mono (ih _ e1 a' w' hd g1 (g4 w' n' g5)) ?_
      intro ex a'' w'' hq
      cases ex with
      | normal =>
        obtain ⟨e'', q1, q2, m, q3, q4⟩ := hq
        exact ⟨m, q3, e'', q1, valsE_spec q2, q4⟩
      | panic ch => exact hq
      | outgrown => exact hq
      | exit id => exact hq
      | goto l => exact hq
      | ret => exact hq
  | exit id => intro Q e a w _ hr h; exact wp_exit ⟨e, hr, h⟩
  | goto l => intro Q e a w _ hr h; exact wp_goto ⟨e, hr, h⟩
  | ret => intro Q e a w _ hr h; exact wp_ret ⟨e, hr, h⟩
  | rangeFunc _ _ _ _ _ _ => intro Q e a w _ hr h; exact h.elim
  | scope c ih => intro Q e a w _ hr h; exact h.elim
  | refuse s => intro Q e a w _ hr h; exact h.elim

def resF (tmps : Array Value) : ResultVar → Sem Value
  | .tmp t => pure (tmps.getD t undef)
  | .cell p t => do loadVar t (← asAddr (tmps.getD p undef))
theorem results_eq (fn : Func) (tmps : Array Value) : results fn tmps = (do
    let vs ← fn.results.mapM (resF tmps)
    pure (if h : vs.size = 1 then vs[0] else .tuple vs)) := rfl
theorem run_results {fn : Func} {a : Act} {e : Env} {w : World} {R : Value → World → Prop} (hr : Rep n a e)
    (h : retsV P e w fn.results.toList fun vs => R (tupled vs) w) : ∃ v, (results fn a.tmps).run P w = .ok v w ∧ R v w := by
  have key : ∀ (l : List ResultVar) (F : List Value → Prop), retsV P e w l F → ∃ vs, (l.mapM (resF a.tmps)).run P w = .ok vs w ∧ F vs := by
    intro l
    induction l with
    | nil => intro F h; exact ⟨[], by simp, h⟩
    | cons r l ih =>
      intro F h
      cases r with
      | tmp t =>
        obtain ⟨vs, h1, h2⟩ := ih _ h
        refine ⟨_, ?_, h2⟩
        have h5 : (resF a.tmps (.tmp t)).run P w = .ok (e t) w := by simp [resF, hr.val]
        simp only [List.mapM_cons, Sem.run_bind, Sem.run_pure, Result.andThen_ok, h1, h5]
      | cell p t =>
        simp only [retsV] at h
        have hp : ∃ ad, e p = .pointer (some ad) := by
          split at h
          · rename_i hh; exact ⟨_, hh⟩
          · exact h.elim
        obtain ⟨ad, hp⟩ := hp
        obtain ⟨v, h1, h2⟩ := sem_load (P := P) (x := e p) (t := t) (w := w) (K := fun v _ => retsV P e w l fun vs => F (v :: vs)) h
        obtain ⟨vs, h3, h4⟩ := ih _ h2
        refine ⟨_, ?_, h4⟩
        have h5 : (resF a.tmps (.cell p t)).run P w = .ok v w := by
          rw [hp] at h1
          simpa [resF, hr.val, hp, asAddr, Instr.loadAt, Instr.sureAddr] using h1
        simp only [List.mapM_cons, Sem.run_bind, Sem.run_pure, Result.andThen_ok, h5, h3]
  obtain ⟨vs, h1, h2⟩ := key _ _ h
  refine ⟨tupled vs, ?_, h2⟩
  rw [results_eq, Sem.run_bind, Array.mapM_eq_mapM_toList]
  have h6 : (List.toArray <$> fn.results.toList.mapM (resF a.tmps)).run P w = .ok vs.toArray w := by
    rw [map_eq_pure_bind]
    simp [h1]
  rw [h6]
  simp only [Result.andThen_ok, Sem.run_pure]
  congr 1
  match vs with
  | [] => rfl
  | [v] => rfl
  | _ :: _ :: _ => simp [tupled]

theorem funV_sound (hmix : P.follows .mixedOrders = true) {AL AC : Nat → Option Ann} {f : FuncId} {fn : Func} (hf : P.funcs[f]? = some fn) {args : Array Value} {w : World} {R : Value → World → Prop}
    (h : funV P fn AL AC args w R) : Calls P f args w fun e w' => ∃ v, e = .returned v ∧ R v w' := by
  unfold funV at h
  split at h
  · rename_i c hc
    split at h
    · rename_i hd hsz
      have hsz' : args.size ≤ fn.ntmps := Nat.le_of_ble_eq_true hsz
      refine calls_of_wp hf hc (wp_mono (wpV_sound (n := fn.ntmps) hmix c _ (argsE args) _ w hd ?_ h) ?_)
      · refine ⟨by simp; omega, rfl, fun t => ?_⟩
        unfold argsE
        simp only [Array.getD_eq_getD_getElem?, Array.getElem?_append]
        split
        · rfl
        · rename_i hge
          have : args[t]? = none := by simp; omega
          rw [this]
          by_cases h2 : t - args.size < fn.ntmps - args.size <;> simp [Array.getElem?_replicate, h2]
      · intro ex a' w' hq
        cases ex with
        | normal =>
          obtain ⟨e, h1, h2⟩ := hq
          obtain ⟨v, h3, h4⟩ := run_results h1 h2
          exact ⟨h1.defers, v, h3, v, rfl, h4⟩
        | ret =>
          obtain ⟨e, h1, h2⟩ := hq
          obtain ⟨v, h3, h4⟩ := run_results h1 h2
          exact ⟨h1.defers, v, h3, v, rfl, h4⟩
        | panic ch => exact hq.elim
        | outgrown => exact hq.elim
        | exit id => obtain ⟨e, h1, h2⟩ := hq; exact h2.elim
        | goto l => obtain ⟨e, h1, h2⟩ := hq; exact h2.elim
    · exact h.elim
  · exact h.elim

end
end Go.Proofs.Ytebahglmdifmpaa.Vc
