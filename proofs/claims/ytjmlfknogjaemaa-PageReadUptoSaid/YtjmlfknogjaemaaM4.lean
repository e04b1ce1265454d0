/- From a function's plain statement to what a call of it does. -/
import Derived.Test.YtjmlfknogjaemaaM3
import Derived.Laws.OwnMore
import Derived.Laws.AppendOwn
import Derived.Laws.Append
set_option linter.unusedSimpArgs false
set_option linter.unusedVariables false
namespace Go.Proofs.Ytjmlfknogjaemaa.Vc
open Go

section
variable {P : Program} {n : Nat}

def liftQ (n : Nat) (Q : Exit → Env → World → Prop) : Exit → Act → World → Prop := fun ex a w =>
  match ex with
  | .panic _ => False
  | .outgrown => False
  | ex => ∃ e, Rep n a e ∧ Q ex e w
theorem calm_lift (Q : Exit → Env → World → Prop) : Calm (liftQ n Q) := ⟨fun _ _ _ h => h, fun _ _ h => h⟩

theorem atV_spec {α : Type} {s : Shape} {f : s.Fn α} {F : Value → α → Prop} {G : α → Prop} {v : Value} (hall : s.allV f F) (hat : s.atV f v G) : ∃ x, F v x ∧ G x := by
  cases s <;> cases v <;> simp only [Shape.atV] at hat <;> simp only [Shape.allV] at hall
  case int.int k k' x =>
    split at hat
    · rename_i hk
      have : k = k' := by simpa using hk
      subst this
      exact ⟨_, hall x, hat⟩
    · exact hat.elim
  case flt.float k k' x =>
    split at hat
    · rename_i hk
      have : k = k' := by simpa using hk
      subst this
      exact ⟨_, hall x, hat⟩
    · exact hat.elim
  case slice.slice A m c => exact ⟨_, hall A m c, hat⟩
  case blk.pointer p =>
    split at hat
    · exact ⟨_, hall _ _, hat⟩
    · exact hat.elim
  all_goals exact ⟨_, hall _, hat⟩
theorem appV_spec {α : Type} : ∀ {l : List (Nat × Shape)} {I : FnV l α} {e0 e : Env} {F : Env → α → Prop} {G : α → Prop}, allV l I e0 F → appV l I e G →
    ∃ e1 x, F e1 x ∧ G x ∧ ∀ t, e1 t = if t ∈ l.map (·.1) then e t else e0 t := by
  intro l
  induction l with
  | nil =>
    intro I e0 e F G hall hat
    exact ⟨e0, I, hall, hat, fun t => by simp⟩
  | cons p l ih =>
    obtain ⟨t0, s⟩ := p
    intro I e0 e F G hall hat
    obtain ⟨I', h1, h2⟩ := atV_spec (F := fun v I' => allV l I' (upd e0 t0 v) F) (G := fun I' => appV l I' e G) hall hat
    obtain ⟨e1, x, h3, h4, h5⟩ := ih h1 h2
    refine ⟨e1, x, h3, h4, fun t => ?_⟩
    rw [h5 t]
    by_cases ht : t ∈ l.map (·.1)
    · rw [if_pos ht, if_pos (by simp only [List.map_cons, List.mem_cons]; exact .inr ht)]
    · rw [if_neg ht]
      by_cases h0 : t = t0
      · subst h0
        rw [upd_same, if_pos (by simp)]
      · rw [upd_other _ _ _ _ h0, if_neg (by simp only [List.map_cons, List.mem_cons]; rintro (h | h); exact h0 h; exact ht h)]
theorem memN_iff (l : List Nat) (t : Nat) : memN l t = true ↔ t ∈ l := by
  induction l with
  | nil => simp [memN]
  | cons x l ih =>
    unfold memN
    split
    · rename_i h
      have := Nat.eq_of_beq_eq_true h
      simp [this]
    · rename_i h
      have : t ≠ x := fun e => by subst e; simp at h
      rw [ih]
      simp [this]
theorem valsE_spec {l : List Nat} {e e' : Env} (h : valsE l e' = valsE l e) : ∀ t ∈ l, e' t = e t := by
  intro t ht
  have := List.map_inj_left.1 h t ht
  exact this
theorem keep_back {an : Ann} {e e0 e1 : Env} (hk : ∀ t ∈ an.keep, e0 t = e t) (h1 : ∀ t, e1 t = if t ∈ an.live.map (·.1) then e0 t else keepE e an.keep e0 t) : e1 = e0 := by
  funext t
  rw [h1 t]
  split
  · rfl
  · unfold keepE
    split
    · rename_i hm
      exact (hk t ((memN_iff _ _).1 hm)).symm
    · rfl

theorem wp_loop' {Q : Exit → Act → World → Prop} {c : Code} (I : Act → World → Nat → Prop) {a : Act} {w : World} {k : Nat} (h₀ : I a w k)
    (round : ∀ a w n, I a w n → c.wp P (Exit.then (fun a' w' => ∃ m, m < n ∧ I a' w' m) Q) a w) : (Code.loop c).wp P Q a w := by
  intro b kk cs
  have key : ∀ n a w, I a w n → ∃ e a' w', Q e a' w' ∧ Arrives P (lone (b.at a (.code c :: .inLoop c :: kk)) cs w) b kk cs e a' w' := by
    intro n
    induction n using Nat.strongRecOn with
    | _ n ih =>
      intro a w hI
      obtain ⟨e, a₁, w₁, hq, harr⟩ := round a w n hI b (.inLoop c :: kk) cs
      cases e with
      | normal =>
        obtain ⟨m, hlt, hI₁⟩ := hq
        obtain ⟨e₂, a₂, w₂, hq₂, harr₂⟩ := ih m hlt a₁ w₁ hI₁
        exact ⟨e₂, a₂, w₂, hq₂, .of_steps (Steps.trans harr (.one step_inLoop)) harr₂⟩
      | exit id => exact ⟨_, a₁, w₁, hq, .pass (x := .inLoop c) rfl (fun _ _ => .inl (by simp)) harr⟩
      | goto l => exact ⟨_, a₁, w₁, hq, .pass (x := .inLoop c) rfl (fun _ _ => .inl (by simp)) harr⟩
      | ret => exact ⟨_, a₁, w₁, hq, .pass (x := .inLoop c) rfl (fun _ _ => .inl (by simp)) harr⟩
      | panic ch => exact ⟨_, a₁, w₁, hq, .pass (x := .inLoop c) rfl (fun _ _ => .inl (by simp)) harr⟩
      | outgrown => exact ⟨_, a₁, w₁, hq, .pass (x := .inLoop c) rfl (fun _ _ => .inl (by simp)) harr⟩
  obtain ⟨e, a', w', hq, harr⟩ := key _ a w h₀
  exact ⟨e, a', w', hq, .of_steps (.one step_loop) harr⟩

theorem wpV_sound (hmix : P.follows .mixedOrders = true) {AL AC : Nat → Option Ann} : ∀ (c : Code) (Q : Exit → Env → World → Prop) (e : Env) (a : Act) (w : World), dstsOk n c = true → Rep n a e →
    wpV P AL AC c Q e w → c.wp P (liftQ n Q) a w := by
  intro c
  induction c with
  | skip => intro Q e a w _ hr h; exact wp_skip ⟨e, hr, h⟩
  | label l => intro Q e a w _ hr h; exact wp_label ⟨e, hr, h⟩
  | region id ops draw =>
    intro Q e a w hd hr h
    refine regionV_sound hmix (calm_lift Q) (K := Q .normal) (n := n) ?_ (fun a w ⟨e, h1, h2⟩ => ⟨e, h1, h2⟩) hr h
    intro o ho d hod
    have := List.all_eq_true.1 hd o ho
    simp only [hod] at this
    exact Nat.lt_of_lt_of_le (Nat.lt_succ_self _) (Nat.le_of_ble_eq_true this)
  | seq x y ihx ihy =>
    intro Q e a w hd hr h
    simp only [dstsOk, Bool.and_eq_true] at hd
    unfold wpV at h
    split at h
    · refine wp_seq (wp_mono (ihx _ e a w hd.1 hr h) ?_)
      intro ex a' w' hq
      cases ex with
      | normal => obtain ⟨e', h1, h2⟩ := hq; exact ihy Q e' a' w' hd.2 h1 h2
      | panic ch => exact hq
      | outgrown => exact hq
      | exit id => exact hq
      | goto l => exact hq
      | ret => exact hq
    · rename_i an _
      obtain ⟨M, h1, h2⟩ := h
      refine wp_seq (wp_mono (ihx _ e a w hd.1 hr h1) ?_)
      intro ex a' w' hq
      cases ex with
      | normal =>
        obtain ⟨e', g1, g2, g3⟩ := hq
        obtain ⟨e1, J, g4, g5, g6⟩ := appV_spec (h2 e') g3
        have : e1 = e' := keep_back (valsE_spec g2) g6
        subst this
        exact ihy Q e1 a' w' hd.2 g1 (g4 w' g5)
      | panic ch => exact hq
      | outgrown => exact hq
      | exit id => exact hq
      | goto l => exact hq
      | ret => exact hq
  | cond x y z ihy ihz =>
    intro Q e a w hd hr h
    simp only [dstsOk, Bool.and_eq_true] at hd
    unfold wpV at h
    split at h
    · rename_i t ht
      refine wp_cond (t := t) (by rw [hr.eval]; exact ht) ?_
      cases t
      · exact ihz Q e a w hd.2 hr h
      · exact ihy Q e a w hd.1 hr h
    · exact h.elim
  | block id c ih =>
    intro Q e a w hd hr h
    refine wp_block (wp_mono (ih _ e a w hd hr h) ?_)
    intro ex a' w' hq
    cases ex with
    | normal => exact hq
    | panic ch => exact hq
    | outgrown => exact hq
    | goto l => exact hq
    | ret => exact hq
    | exit i =>
      obtain ⟨e', h1, h2⟩ := hq
      simp only [Exit.inBlock]
      by_cases hi : i = id
      · subst hi
        rw [if_pos rfl]
        refine ⟨e', h1, ?_⟩
        have : Nat.beq i i = true := Nat.beq_refl i
        simpa [this] using h2
      · rw [if_neg hi]
        refine ⟨e', h1, ?_⟩
        have : Nat.beq i id = false := by
          cases hb : Nat.beq i id with
          | false => rfl
          | true => exact absurd (Nat.eq_of_beq_eq_true hb) hi
        simpa [this] using h2
  | loop c ih =>
    intro Q e a w hd hr h
    unfold wpV at h
    split at h
    · exact h.elim
    · rename_i an _
      obtain ⟨I, ⟨k, h0⟩, h1⟩ := h
      refine wp_loop' (fun a' w' n' => ∃ e0, Rep n a' e0 ∧ (∀ t ∈ an.keep, e0 t = e t) ∧ appV an.live I e0 fun J => J w' n') ⟨e, hr, fun _ _ => rfl, h0⟩ ?_
      rintro a' w' n' ⟨e0, g1, g2, g3⟩
      obtain ⟨e1, J, g4, g5, g6⟩ := appV_spec (h1 e0) g3
      have : e1 = e0 := keep_back g2 g6
      subst this
      refine wp_mono (ih _ e1 a' w' hd g1 (g4 w' n' g5)) ?_
      intro ex a'' w'' hq
      cases ex with
      | normal =>
        obtain ⟨e'', q1, q2, m, q3, q4⟩ := hq
        exact ⟨m, q3, e'', q1, valsE_spec q2, q4⟩
      | panic ch => exact hq
      | outgrown => exact hq
      | exit id => exact hq
      | goto l => exact hq
      | ret => exact hq
  | exit id => intro Q e a w _ hr h; exact wp_exit ⟨e, hr, h⟩
  | goto l => intro Q e a w _ hr h; exact wp_goto ⟨e, hr, h⟩
  | ret => intro Q e a w _ hr h; exact wp_ret ⟨e, hr, h⟩
  | rangeFunc _ _ _ _ _ _ => intro Q e a w _ hr h; exact h.elim
  | scope c ih => intro Q e a w _ hr h; exact h.elim
  | refuse s => intro Q e a w _ hr h; exact h.elim

def resF (tmps : Array Value) : ResultVar → Sem Value
  | .tmp t => pure (tmps.getD t undef)
  | .cell p t => do loadVar t (← asAddr (tmps.getD p undef))
theorem results_eq (fn : Func) (tmps : Array Value) : results fn tmps = (do
    let vs ← fn.results.mapM (resF tmps)
    pure (if h : vs.size = 1 then vs[0] else .tuple vs)) := rfl
theorem run_results {fn : Func} {a : Act} {e : Env} {w : World} {R : Value → World → Prop} (hr : Rep n a e)
    (h : retsV P e w fn.results.toList fun vs => R (tupled vs) w) : ∃ v, (results fn a.tmps).run P w = .ok v w ∧ R v w := by
  have key : ∀ (l : List ResultVar) (F : List Value → Prop), retsV P e w l F → ∃ vs, (l.mapM (resF a.tmps)).run P w = .ok vs w ∧ F vs := by
    intro l
    induction l with
    | nil => intro F h; exact ⟨[], by simp, h⟩
    | cons r l ih =>
      intro F h
      cases r with
      | tmp t =>
        obtain ⟨vs, h1, h2⟩ := ih _ h
        refine ⟨_, ?_, h2⟩
        have h5 : (resF a.tmps (.tmp t)).run P w = .ok (e t) w := by simp [resF, hr.val]
        simp only [List.mapM_cons, Sem.run_bind, Sem.run_pure, Result.andThen_ok, h1, h5]
      | cell p t =>
        simp only [retsV] at h
        have hp : ∃ ad, e p = .pointer (some ad) := by
          split at h
          · rename_i hh; exact ⟨_, hh⟩
          · exact h.elim
        obtain ⟨ad, hp⟩ := hp
        obtain ⟨v, h1, h2⟩ := sem_load (P := P) (x := e p) (t := t) (w := w) (K := fun v _ => retsV P e w l fun vs => F (v :: vs)) h
        obtain ⟨vs, h3, h4⟩ := ih _ h2
        refine ⟨_, ?_, h4⟩
        have h5 : (resF a.tmps (.cell p t)).run P w = .ok v w := by
          rw [hp] at h1
          simpa [resF, hr.val, hp, asAddr, Instr.loadAt, Instr.sureAddr] using h1
        simp only [List.mapM_cons, Sem.run_bind, Sem.run_pure, Result.andThen_ok, h5, h3]
  obtain ⟨vs, h1, h2⟩ := key _ _ h
  refine ⟨tupled vs, ?_, h2⟩
  rw [results_eq, Sem.run_bind, Array.mapM_eq_mapM_toList]
  have h6 : (List.toArray <$> fn.results.toList.mapM (resF a.tmps)).run P w = .ok vs.toArray w := by
    rw [map_eq_pure_bind]
    simp [h1]
  rw [h6]
  simp only [Result.andThen_ok, Sem.run_pure]
  congr 1
  match vs with
  | [] => rfl
  | [v] => rfl
  | _ :: _ :: _ => simp [tupled]

theorem funV_sound (hmix : P.follows .mixedOrders = true) {AL AC : Nat → Option Ann} {f : FuncId} {fn : Func} (hf : P.funcs[f]? = some fn) {args : Array Value} {w : World} {R : Value → World → Prop}
    (h : funV P fn AL AC args w R) : Calls P f args w fun e w' => ∃ v, e = .returned v ∧ R v w' := by
  unfold funV at h
  split at h
  · rename_i c hc
    split at h
    · rename_i hd hsz
      have hsz' : args.size ≤ fn.ntmps := Nat.le_of_ble_eq_true hsz
      refine calls_of_wp hf hc (wp_mono (wpV_sound (n := fn.ntmps) hmix c _ (argsE args) _ w hd ?_ h) ?_)
      · refine ⟨by simp; omega, rfl, fun t => ?_⟩
        unfold argsE
        simp only [Array.getD_eq_getD_getElem?, Array.getElem?_append]
        split
        · rfl
        · rename_i hge
          have : args[t]? = none := by simp; omega
          rw [this]
          by_cases h2 : t - args.size < fn.ntmps - args.size <;> simp [Array.getElem?_replicate, h2]
      · intro ex a' w' hq
        cases ex with
        | normal =>
          obtain ⟨e, h1, h2⟩ := hq
          obtain ⟨v, h3, h4⟩ := run_results h1 h2
          exact ⟨h1.defers, v, h3, v, rfl, h4⟩
        | ret =>
          obtain ⟨e, h1, h2⟩ := hq
          obtain ⟨v, h3, h4⟩ := run_results h1 h2
          exact ⟨h1.defers, v, h3, v, rfl, h4⟩
        | panic ch => exact hq.elim
        | outgrown => exact hq.elim
        | exit id => obtain ⟨e, h1, h2⟩ := hq; exact h2.elim
        | goto l => obtain ⟨e, h1, h2⟩ := hq; exact h2.elim
    · exact h.elim
  · exact h.elim

end
end Go.Proofs.Ytjmlfknogjaemaa.Vc
/- Memory, block by block: what stands in a block, what a stretch of work left alone. -/
set_option linter.unusedVariables false
set_option linter.unusedSimpArgs false
namespace Go.Proofs.Ytjmlfknogjaemaa.Vc
open Go

def Blk (w : World) (b : Nat) (cs : Array Value) (T : TypeId) : Prop := w.heap[b]? = some (.cells cs T (0, 0))
def putA (cs : Array Value) : Nat → List Value → Array Value
  | _, [] => cs
  | o, v :: vs => putA (cs.setIfInBounds o v) (o + 1) vs

theorem size_alloc (w : World) (o : Obj) : (w.alloc o).heap.size = w.heap.size + 1 := by simp
theorem size_drew (w : World) : w.drew.heap.size = w.heap.size := rfl
theorem size_set (w : World) (b : Nat) : ∀ (vs : List Value) (o : Nat), (setCs w b o vs).heap.size = w.heap.size := by
  intro vs
  induction vs generalizing w with
  | nil => intro o; rfl
  | cons v vs ih => intro o; rw [setCs, ih]; simp [World.setCell]
theorem heap_set_ne (w : World) (b : Nat) : ∀ (vs : List Value) (o b' : Nat), b' ≠ b → (setCs w b o vs).heap[b']? = w.heap[b']? := by
  intro vs
  induction vs generalizing w with
  | nil => intro o b' h; rfl
  | cons v vs ih =>
    intro o b' h
    rw [setCs, ih _ _ _ h]
    simp [World.setCell, Array.getElem?_modify, Ne.symm h]
theorem putA_size (cs : Array Value) : ∀ (vs : List Value) (o : Nat), (putA cs o vs).size = cs.size := by
  intro vs
  induction vs generalizing cs with
  | nil => intro o; rfl
  | cons v vs ih => intro o; rw [putA, ih]; simp
theorem putA_get (cs : Array Value) : ∀ (vs : List Value) (o k : Nat), o + vs.length ≤ cs.size → (putA cs o vs)[k]? = if o ≤ k ∧ k < o + vs.length then vs[k - o]? else cs[k]? := by
  intro vs
  induction vs generalizing cs with
  | nil => intro o k h; rw [if_neg (by simp)]; rfl
  | cons v vs ih =>
    intro o k h
    simp only [List.length_cons] at h
    rw [putA, ih _ _ _ (by simp; omega)]
    by_cases h1 : o + 1 ≤ k ∧ k < o + 1 + vs.length
    · rw [if_pos h1, if_pos (by simp; omega)]
      rw [show k - o = (k - (o + 1)) + 1 by omega]
      rfl
    · rw [if_neg h1]
      by_cases h2 : k = o
      · subst h2
        rw [if_pos (by simp)]
        simp [Array.getElem?_setIfInBounds]
        omega
      · rw [if_neg (by simp; omega)]
        simp [Array.getElem?_setIfInBounds, Ne.symm h2]

theorem Blk.lt {w : World} {b : Nat} {cs : Array Value} {T : TypeId} (h : Blk w b cs T) : b < w.heap.size := by
  have := Array.getElem?_eq_some_iff.mp h
  exact this.1
theorem Blk.cell {w : World} {b i : Nat} {cs : Array Value} {T : TypeId} {v : Value} (h : Blk w b cs T) (hv : cs[i]? = some v) : w.cell? ⟨b, i, none⟩ = some v := by
  unfold Blk at h
  simp [World.cell?, h, hv]
theorem Blk.can {w : World} {b o n : Nat} {cs : Array Value} {T : TypeId} (h : Blk w b cs T) (hn : o + n ≤ cs.size) : canStore w b o n := ⟨cs, T, h, hn⟩
theorem Blk.set {w : World} {b : Nat} {cs : Array Value} {T : TypeId} (h : Blk w b cs T) : ∀ (vs : List Value) (o : Nat), Blk (setCs w b o vs) b (putA cs o vs) T := by
  intro vs
  induction vs generalizing w cs with
  | nil => intro o; exact h
  | cons v vs ih =>
    intro o
    rw [setCs, putA]
    refine ih ?_ _
    unfold Blk at h ⊢
    simp [World.setCell, Array.getElem?_modify, h]
theorem Blk.set_ne {w : World} {b b' o : Nat} {cs : Array Value} {T : TypeId} {vs : List Value} (hne : b ≠ b') (h : Blk w b cs T) : Blk (setCs w b' o vs) b cs T := by
  unfold Blk at h ⊢
  rw [heap_set_ne _ _ _ _ _ hne, h]
theorem Blk.whole {w : World} {b : Nat} {cs : Array Value} {T : TypeId} {vs : List Value} (h : Blk w b cs T) (hl : vs.length = cs.size) : Blk (setCs w b 0 vs) b vs.toArray T := by
  have := h.set vs 0
  have e : putA cs 0 vs = vs.toArray := by
    apply Array.ext_getElem?
    intro k
    rw [putA_get _ _ _ _ (by omega)]
    by_cases hk : k < vs.length
    · rw [if_pos (by omega)]; simp
    · rw [if_neg (by omega), Array.getElem?_eq_none (by omega)]
      simp; omega
  rw [e] at this
  exact this
theorem Blk.alloc {w : World} {b : Nat} {cs : Array Value} {T : TypeId} {o : Obj} (h : Blk w b cs T) : Blk (w.alloc o) b cs T := by
  have := h.lt
  unfold Blk at h ⊢
  rw [(ext_alloc w o).2 b this, h]
theorem Blk.new {w : World} {cs : Array Value} {T : TypeId} : Blk (w.alloc (.cells cs T)) w.heap.size cs T := by
  unfold Blk World.alloc
  simp
theorem Blk.newd {w : World} {cs : Array Value} {T : TypeId} : Blk (w.drew.alloc (.cells cs T)) w.heap.size cs T := Blk.new
theorem Blk.drew {w : World} {b : Nat} {cs : Array Value} {T : TypeId} (h : Blk w b cs T) : Blk w.drew b cs T := h

/-- Nothing but the blocks of S, of those that were there, was touched; nothing was frozen; nothing was said. -/
structure Fr (S : List Nat) (w w' : World) : Prop where
  size : w.heap.size ≤ w'.heap.size
  block : ∀ b, b < w.heap.size → b ∉ S → w'.heap[b]? = w.heap[b]?
  os : w'.os = w.os
  output : w'.output = w.output
  frozen : ∀ a : Addr, a.block < w.heap.size → w'.frozen? a = w.frozen? a
theorem Fr.refl (S : List Nat) (w : World) : Fr S w w := ⟨Nat.le_refl _, fun _ _ _ => rfl, rfl, rfl, fun _ _ => rfl⟩
theorem Fr.trans {S : List Nat} {a b c : World} (h : Fr S a b) (k : Fr S b c) : Fr S a c :=
  ⟨Nat.le_trans h.1 k.1, fun i hi hS => (k.2 i (Nat.lt_of_lt_of_le hi h.1) hS).trans (h.2 i hi hS), k.os.trans h.os, k.output.trans h.output, fun x hx => (k.frozen x (Nat.lt_of_lt_of_le hx h.1)).trans (h.frozen x hx)⟩
theorem Fr.mono {S S' : List Nat} {a b : World} (h : Fr S a b) (hs : ∀ x ∈ S, x ∈ S') : Fr S' a b := ⟨h.1, fun i hi hS => h.2 i hi fun hx => hS (hs i hx), h.os, h.output, h.frozen⟩
/-- What was touched afresh counts for nothing. -/
theorem Fr.trans' {S S' : List Nat} {a b c : World} (h : Fr S a b) (k : Fr S' b c) (hs : ∀ x ∈ S', x < a.heap.size → x ∈ S) : Fr S a c :=
  ⟨Nat.le_trans h.1 k.1, fun i hi hS => (k.2 i (Nat.lt_of_lt_of_le hi h.1) fun hx => hS (hs i hx hi)).trans (h.2 i hi hS), k.os.trans h.os, k.output.trans h.output, fun x hx => (k.frozen x (Nat.lt_of_lt_of_le hx h.1)).trans (h.frozen x hx)⟩
theorem Fr.drew {S : List Nat} {a b : World} (h : Fr S a b) : Fr S a b.drew := ⟨h.1, h.2, h.os, h.output, h.frozen⟩
theorem Fr.ofdrew {S : List Nat} {a b : World} (h : Fr S a.drew b) : Fr S a b := ⟨h.1, h.2, h.os, h.output, h.frozen⟩
/-- An object that freezes nothing. -/
def softObj : Obj → Bool
  | .cells _ _ (0, 0) => true
  | .map _ _ => true
  | _ => false
theorem frozen_soft {w : World} {o : Obj} (ho : softObj o = true) (a : Addr) (h : w.heap[a.block]? = some o) : w.frozen? a = false := by
  unfold World.frozen?
  rw [h]
  cases o with
  | cells c t f =>
    obtain ⟨x, y⟩ := f
    cases x <;> cases y <;> simp [softObj] at ho ⊢
  | _ => rfl
theorem Fr.allocO {S : List Nat} {a b : World} {o : Obj} (ho : softObj o = true) (h : Fr S a b) : Fr S a (b.alloc o) := by
  refine h.trans ⟨by simp, fun i hi _ => (ext_alloc b o).2 i hi, rfl, rfl, fun x hx => ?_⟩
  unfold World.frozen?
  rw [(ext_alloc b o).2 _ hx]
theorem Fr.alloc {S : List Nat} {a b : World} {cs : Array Value} {T : TypeId} (h : Fr S a b) : Fr S a (b.alloc (.cells cs T)) := h.allocO rfl
theorem Fr.allocM {S : List Nat} {a b : World} {es : Array MapEntry} {c : Nat} (h : Fr S a b) : Fr S a (b.alloc (.map es c)) := h.allocO rfl
theorem frozen_setCell (w : World) (x : Addr) (v : Value) (a : Addr) : (w.setCell x v).frozen? a = w.frozen? a := by
  unfold World.frozen? World.setCell
  by_cases h : a.block = x.block
  · simp only [h, Array.getElem?_modify]
    cases hw : w.heap[x.block]? with
    | none => simp
    | some o => cases o <;> simp
  · simp only [Array.getElem?_modify]
    rw [if_neg (fun e => h e.symm)]
theorem set_rest (w : World) (b : Nat) : ∀ (vs : List Value) (o : Nat), (setCs w b o vs).os = w.os ∧ (setCs w b o vs).output = w.output ∧ ∀ a, (setCs w b o vs).frozen? a = w.frozen? a := by
  intro vs
  induction vs generalizing w with
  | nil => intro o; exact ⟨rfl, rfl, fun _ => rfl⟩
  | cons v vs ih =>
    intro o
    obtain ⟨h1, h2, h3⟩ := ih (w.setCell ⟨b, o, none⟩ v) (o + 1)
    exact ⟨h1, h2, fun a => (h3 a).trans (frozen_setCell w _ v a)⟩
theorem Fr.set {S : List Nat} {a b : World} {g o : Nat} {vs : List Value} (h : Fr S a b) (hg : g ∈ S ∨ a.heap.size ≤ g) : Fr S a (setCs b g o vs) := by
  obtain ⟨r1, r2, r3⟩ := set_rest b g vs o
  refine ⟨by rw [size_set]; exact h.1, fun i hi hS => ?_, r1.trans h.os, r2.trans h.output, fun x hx => (r3 x).trans (h.frozen x hx)⟩
  rw [heap_set_ne _ _ _ _ _ ?_, h.2 i hi hS]
  rintro rfl
  rcases hg with hg | hg
  · exact hS hg
  · omega
theorem frozen_setRow (w : World) (g : Nat) (cs : Array Value) (a : Addr) : (w.setRow g cs).frozen? a = w.frozen? a := by
  unfold World.frozen? World.setRow
  by_cases h : a.block = g
  · simp only [h, Array.getElem?_modify]
    cases hw : w.heap[g]? with
    | none => simp
    | some o => cases o <;> simp
  · simp only [Array.getElem?_modify]
    rw [if_neg (fun e => h e.symm)]
theorem Fr.of_grown {w w' : World} {row : Option Nat} (h : w.grownBy w' row) (hz : ∀ a, w'.frozen? a = w.frozen? a) {S : List Nat} (hs : ∀ b, row = some b → b < w.heap.size → b ∈ S) : Fr S w w' :=
  ⟨h.size, fun b hb hS => h.block b hb fun e => hS (hs b e.symm hb), h.os, h.output, fun x _ => hz x⟩
theorem Fr.blk {S : List Nat} {w w' : World} {b : Nat} {cs : Array Value} {T : TypeId} (h : Fr S w w') (hb : Blk w b cs T) (hS : b ∉ S) : Blk w' b cs T := by
  have hl := hb.lt
  unfold Blk at hb ⊢
  rw [h.2 b hl hS, hb]
theorem Fr.cell {w w' : World} {a : Addr} {v : Value} (h : Fr [] w w') (hc : w.cell? a = some v) : w'.cell? a = some v :=
  Ext.cell ⟨h.1, fun b hb => h.2 b hb (by simp)⟩ hc

/-! ### Rows of records -/
def Row (w : World) (TE : TypeId) (s g cap : Nat) (rs : List (List Value)) : Prop :=
  ∃ cur, Blk w g cur TE ∧ cur.size = cap * s ∧ rs.length ≤ cap ∧ cap ≤ maxLen ∧ (∀ r ∈ rs, r.length = s) ∧ ∀ i, i < rs.length → ∀ j, j < s → cur[i * s + j]? = (rs.getD i [])[j]?
theorem flat_len {s : Nat} : ∀ {rs : List (List Value)}, (∀ r ∈ rs, r.length = s) → rs.flatten.length = rs.length * s
  | [], _ => by simp
  | r :: rs, h => by
    rw [List.flatten_cons, List.length_append, flat_len fun x hx => h x (List.mem_cons_of_mem _ hx), h r (List.mem_cons_self), List.length_cons, Nat.add_mul]
    omega
theorem flat_get {s : Nat} : ∀ {rs : List (List Value)}, (∀ r ∈ rs, r.length = s) → ∀ i, i < rs.length → ∀ j, j < s → rs.flatten[i * s + j]? = (rs.getD i [])[j]?
  | [], _, i, hi, _, _ => by simp at hi
  | r :: rs, h, 0, _, j, hj => by
    have := h r (List.mem_cons_self)
    rw [List.flatten_cons, Nat.zero_mul, Nat.zero_add, List.getElem?_append_left (by omega)]
    rfl
  | r :: rs, h, i + 1, hi, j, hj => by
    have := h r (List.mem_cons_self)
    rw [List.flatten_cons, List.getElem?_append_right (by rw [this, Nat.add_mul]; omega), this, show (i + 1) * s + j - s = i * s + j by rw [Nat.add_mul]; omega]
    exact flat_get (fun x hx => h x (List.mem_cons_of_mem _ hx)) i (by simpa using hi) j hj
theorem Row.ofOwn {w : World} {TE : TypeId} {s g cap n : Nat} {rs : List (List Value)} (hs : 0 < s) (h : w.ownsRow 0 TE s (.slice (some ⟨g, 0, none⟩) n cap) n rs.flatten) (hl : ∀ r ∈ rs, r.length = s) : Row w TE s g cap rs ∧ n = rs.length := by
  obtain ⟨h1, h2⟩ := h
  rw [flat_len hl] at h1
  have hn : rs.length = n := Nat.eq_of_mul_eq_mul_right hs h1
  subst hn
  refine ⟨?_, rfl⟩
  rcases h2 with ⟨h2, _⟩ | ⟨g', cap', cur, h2, _, hg, hnc, hcm, hcs, htake⟩
  · simp at h2
  · simp only [Value.slice.injEq, Option.some.injEq, Addr.mk.injEq, and_true, true_and] at h2
    obtain ⟨rfl, rfl⟩ := h2
    refine ⟨cur, hg, hcs, hnc, hcm, hl, fun i hi j hj => ?_⟩
    have : i * s + j < rs.length * s := by
      have : (i + 1) * s ≤ rs.length * s := Nat.mul_le_mul_right s hi
      rw [Nat.add_mul] at this; omega
    rw [← flat_get hl i hi j hj, ← htake, List.getElem?_take, if_pos this]
    simp
theorem Row.toOwn {w : World} {TE : TypeId} {s g cap : Nat} {rs : List (List Value)} (hs : 0 < s) (h : Row w TE s g cap rs) : w.ownsRow 0 TE s (.slice (some ⟨g, 0, none⟩) rs.length cap) rs.length rs.flatten := by
  obtain ⟨cur, hg, hcs, hnc, hcm, hl, hget⟩ := h
  refine ⟨flat_len hl, .inr ⟨g, cap, cur, rfl, Nat.zero_le _, hg, hnc, hcm, hcs, ?_⟩⟩
  apply List.ext_getElem?
  intro k
  rw [List.getElem?_take]
  by_cases hk : k < rs.length * s
  · rw [if_pos hk]
    have hd : k / s < rs.length := Nat.div_lt_of_lt_mul (by rw [Nat.mul_comm]; exact hk)
    have hm : k % s < s := Nat.mod_lt _ hs
    have he : k / s * s + k % s = k := Nat.div_add_mod' k s
    rw [← he, flat_get hl _ hd _ hm, ← hget _ hd _ hm]
    simp
  · rw [if_neg hk, List.getElem?_eq_none (by rw [flat_len hl]; omega)]
theorem Row.cell {w : World} {TE : TypeId} {s g cap : Nat} {rs : List (List Value)} (h : Row w TE s g cap rs) {i j k : Nat} (hi : i < rs.length) (hj : j < s) (hk : k = i * s + j) {x : Value} (hx : (rs.getD i [])[j]? = some x) : w.cell? ⟨g, k, none⟩ = some x := by
  obtain ⟨cur, hg, hcs, hnc, hcm, hl, hget⟩ := h
  subst hk
  exact hg.cell ((hget i hi j hj).trans hx)
theorem Row.can {w : World} {TE : TypeId} {s g cap : Nat} {rs : List (List Value)} (h : Row w TE s g cap rs) {i k : Nat} (hi : i < rs.length) (hk : k = i * s) : canStore w g k s := by
  obtain ⟨cur, hg, hcs, hnc, hcm, hl, hget⟩ := h
  refine hg.can ?_
  have : (i + 1) * s ≤ cap * s := Nat.mul_le_mul_right s (by omega)
  rw [Nat.add_mul] at this; omega
theorem Row.set {w : World} {TE : TypeId} {s g cap : Nat} {rs : List (List Value)} (h : Row w TE s g cap rs) {i k : Nat} (hi : i < rs.length) (hk : k = i * s) {r : List Value} (hr : r.length = s) : Row (setCs w g k r) TE s g cap (rs.set i r) := by
  obtain ⟨cur, hg, hcs, hnc, hcm, hl, hget⟩ := h
  subst hk
  have hb : (i + 1) * s ≤ cap * s := Nat.mul_le_mul_right s (by omega)
  rw [Nat.add_mul] at hb
  refine ⟨_, hg.set r (i * s), by rw [putA_size]; exact hcs, by simpa using hnc, hcm, ?_, ?_⟩
  · intro x hx
    rcases List.mem_or_eq_of_mem_set hx with hx | rfl
    · exact hl x hx
    · exact hr
  · intro i' hi' j hj
    simp only [List.length_set] at hi'
    rw [putA_get _ _ _ _ (by omega)]
    by_cases he : i' = i
    · subst he
      rw [if_pos (by omega), show i' * s + j - i' * s = j by omega]
      simp [List.getD_eq_getElem?_getD, hi]
    · rw [if_neg, hget i' hi' j hj]
      · simp [List.getD_eq_getElem?_getD, Ne.symm he]
      · rw [hr]
        rintro ⟨h1, h2⟩
        rcases Nat.lt_or_gt_of_ne he with h3 | h3
        · have : (i' + 1) * s ≤ i * s := Nat.mul_le_mul_right s h3
          rw [Nat.add_mul] at this; omega
        · have : (i + 1) * s ≤ i' * s := Nat.mul_le_mul_right s h3
          rw [Nat.add_mul] at this; omega
theorem Row.take {w : World} {TE : TypeId} {s g cap : Nat} {rs : List (List Value)} (h : Row w TE s g cap rs) (m : Nat) : Row w TE s g cap (rs.take m) := by
  obtain ⟨cur, hg, hcs, hnc, hcm, hl, hget⟩ := h
  refine ⟨cur, hg, hcs, by simp; omega, hcm, fun r hr => hl r (List.mem_of_mem_take hr), fun i hi j hj => ?_⟩
  simp only [List.length_take] at hi
  rw [hget i (by omega) j hj]
  simp [List.getD_eq_getElem?_getD, List.getElem?_take]
  rw [if_pos (by omega)]
theorem Row.fr {S : List Nat} {w w' : World} {TE : TypeId} {s g cap : Nat} {rs : List (List Value)} (h : Row w TE s g cap rs) (hf : Fr S w w') (hg : g ∉ S) : Row w' TE s g cap rs := by
  obtain ⟨cur, hb, h⟩ := h
  exact ⟨cur, hf.blk hb hg, h⟩
theorem Row.lt {w : World} {TE : TypeId} {s g cap : Nat} {rs : List (List Value)} (h : Row w TE s g cap rs) : g < w.heap.size := by
  obtain ⟨cur, hb, h⟩ := h
  exact hb.lt
theorem Row.set_ne {w : World} {TE : TypeId} {s g cap : Nat} {rs : List (List Value)} (h : Row w TE s g cap rs) {b o : Nat} {vs : List Value} (hne : g ≠ b) : Row (setCs w b o vs) TE s g cap rs := by
  obtain ⟨cur, hb, h⟩ := h
  exact ⟨cur, hb.set_ne hne, h⟩
theorem Row.cap_le {w : World} {TE : TypeId} {s g cap : Nat} {rs : List (List Value)} (h : Row w TE s g cap rs) : rs.length ≤ cap := by
  obtain ⟨cur, _, _, h, _⟩ := h; exact h

/-! ### A heap of things -/
section
variable {α : Type}
/-- The heap at a: its row stands in a block of its own; F: its blocks. -/
def HeapAt (TH TE : TypeId) (s : Nat) (enc : α × Int → List Value) (w : World) (F : List Nat) (a : Nat) (less : Value) (es : List (α × Int)) (came : Int) : Prop :=
  ∃ v, Blk w a #[less, v, .int .i64 came] TH ∧ (∀ x, (enc x).length = s) ∧
    ((v = .slice none 0 0 ∧ es = [] ∧ F = [a]) ∨ ∃ g cap, v = .slice (some ⟨g, 0, none⟩) es.length cap ∧ F = [a, g] ∧ g ≠ a ∧ Row w TE s g cap (es.map enc))
variable {TH TE : TypeId} {s : Nat} {enc : α × Int → List Value} {w w' : World} {F : List Nat} {a : Nat} {less : Value} {es : List (α × Int)} {came : Int}
theorem HeapAt.fr {S : List Nat} (h : HeapAt TH TE s enc w F a less es came) (hf : Fr S w w') (hd : ∀ x ∈ F, x ∉ S) : HeapAt TH TE s enc w' F a less es came := by
  obtain ⟨v, h1, he, h2⟩ := h
  rcases h2 with ⟨h2, h3, rfl⟩ | ⟨g, cap, h2, rfl, h4, h5⟩
  · exact ⟨v, hf.blk h1 (hd a (by simp)), he, .inl ⟨h2, h3, rfl⟩⟩
  · exact ⟨v, hf.blk h1 (hd a (by simp)), he, .inr ⟨g, cap, h2, rfl, h4, h5.fr hf (hd g (by simp))⟩⟩
theorem HeapAt.lt (h : HeapAt TH TE s enc w F a less es came) : ∀ x ∈ F, x < w.heap.size := by
  obtain ⟨v, h1, he, h2⟩ := h
  rcases h2 with ⟨h2, h3, rfl⟩ | ⟨g, cap, h2, rfl, h4, h5⟩
  · intro x hx; simp at hx; subst hx; exact h1.lt
  · intro x hx
    simp at hx
    rcases hx with rfl | rfl
    · exact h1.lt
    · exact h5.lt
theorem HeapAt.mem (h : HeapAt TH TE s enc w F a less es came) : a ∈ F := by
  obtain ⟨v, h1, he, h2⟩ := h
  rcases h2 with ⟨h2, h3, rfl⟩ | ⟨g, cap, h2, rfl, h4, h5⟩ <;> simp
/-- A heap that is not empty. -/
theorem HeapAt.row (h : HeapAt TH TE s enc w F a less es came) (hn : 0 < es.length) : ∃ g cap, Blk w a #[less, .slice (some ⟨g, 0, none⟩) es.length cap, .int .i64 came] TH ∧ F = [a, g] ∧ g ≠ a ∧ Row w TE s g cap (es.map enc) ∧ ∀ x, (enc x).length = s := by
  obtain ⟨v, h1, he, h2⟩ := h
  rcases h2 with ⟨h2, h3, rfl⟩ | ⟨g, cap, rfl, h3, h4, h5⟩
  · subst h3; simp at hn
  · exact ⟨g, cap, h1, h3, h4, h5, he⟩
theorem HeapAt.of {g cap : Nat} (h1 : Blk w a #[less, .slice (some ⟨g, 0, none⟩) es.length cap, .int .i64 came] TH) (hg : g ≠ a) (h2 : Row w TE s g cap (es.map enc)) (he : ∀ x, (enc x).length = s) : HeapAt TH TE s enc w [a, g] a less es came :=
  ⟨_, h1, he, .inr ⟨g, cap, rfl, rfl, hg, h2⟩⟩
theorem Row.ent {g cap : Nat} {d : α × Int} (h : Row w TE s g cap (es.map enc)) {i j k : Nat} (hi : i < es.length) (hj : j < s) (hk : k = i * s + j) {x : Value} (hx : (enc (es.getD i d))[j]? = some x) : w.cell? ⟨g, k, none⟩ = some x := by
  refine h.cell (by simpa using hi) hj hk ?_
  simp only [List.getD_eq_getElem?_getD, List.getElem?_map, hi, List.getElem?_eq_getElem, Option.map_some, Option.getD_some] at hx ⊢
  exact hx
end
/-- What a function value that compares does: it answers by lt, and touches nothing that was there, wherever Inv holds. -/
def LessOK {α : Type} (P : Program) (arg : α → Value) (lt : α → α → Bool) (Inv : World → Prop) (less : Value) : Prop :=
  ∀ w x y, Inv w → callT P less #[arg x, arg y] w fun e w' => e = .returned (.bool (lt x y)) ∧ Fr [] w w'
/-- What holds wherever the blocks of C stand as they stood. -/
def Rests (C : List Nat) (Inv : World → Prop) : Prop := ∀ S w w', Fr S w w' → (∀ x ∈ C, x ∉ S) → Inv w → Inv w'

theorem callT_mono {P : Program} {fv : Value} {args : Array Value} {w : World} {R R' : Ending → World → Prop} (h : callT P fv args w R) (hr : ∀ e w', R e w' → R' e w') : callT P fv args w R' := by
  unfold callT at h ⊢
  split at h
  · rename_i f first cap
    split at h
    · rename_i hb
      exact h.mono hr
    · exact h.elim
  · exact h.elim

/-! ### Append of one record -/
theorem i64_id {x : Int} (h0 : -9223372036854775808 ≤ x) (h1 : x ≤ 9223372036854775807) : IntKind.i64.wrap x = x := by
  rw [IntKind.wrap_i64]; omega
theorem append_row {P : Program} {w : World} {t ty e : TypeId} {i : TypeInfo} {z : Value} {s : Nat} {rs : List (List Value)} {v : Value} {r : List Value} {b : Nat} {T' : TypeId}
    (ht : P.underlying t = some (.slice e)) (hi : P.info? e = some i) (hz : i.zero = some z) (hsize : i.size = s) (hzs : z.cells.size = s) (hs : 0 < s)
    (hown : (v = .slice none 0 0 ∧ rs = []) ∨ ∃ g cap, v = .slice (some ⟨g, 0, none⟩) rs.length cap ∧ Row w e s g cap rs)
    (hb : Blk w b r.toArray T') (hr : r.length = s) (h1 : ∀ u ∈ r, u.oneCell' = true) (hrs : ∀ x ∈ rs, x.length = s)
    (hbytes : (rs.length + 1) * i.bytes ≤ 140737488355328) (hmax : rs.length + 1 ≤ maxLen) :
    ∃ g' cap' w', (Builtin.append_ #[t, t] ty #[v, .slice (some ⟨b, 0, none⟩) 1 1]).run P w = .ok (.slice (some ⟨g', 0, none⟩) (rs.length + 1) cap') w' ∧
      Row w' e s g' cap' (rs ++ [r]) ∧ Fr v.ownBlock.toList w w' ∧ (v.ownBlock = some g' ∨ w.heap.size ≤ g') := by
  have hnews : ∀ (j : Nat) (u : Value), r[j]? = some u → w.cell? ((⟨b, 0, none⟩ : Addr).add j) = some u := by
    intro j u hu
    have e0 : (⟨b, 0, none⟩ : Addr).add j = ⟨b, j, none⟩ := by simp [Addr.add_lit]
    rw [e0]
    exact hb.cell (by simpa using hu)
  have hl : r.length = 1 * i.size := by rw [hr, hsize]; omega
  have hrs' : ∀ x ∈ rs ++ [r], x.length = s := by
    intro x hx
    rcases List.mem_append.mp hx with hx | hx
    · exact hrs x hx
    · simp at hx; subst hx; exact hr
  have hflat : (rs ++ [r]).flatten = rs.flatten ++ r := by simp
  have fin : ∀ (v' : Value) (w' : World) (base : Nat), w'.ownsRow base e s v' (rs.length + 1) (rs.flatten ++ r) → ∃ g' cap', v' = .slice (some ⟨g', 0, none⟩) (rs.length + 1) cap' ∧ Row w' e s g' cap' (rs ++ [r]) ∧ base ≤ g' := by
    intro v' w' base ho
    rcases ho.2 with ⟨_, h⟩ | ⟨g', cap', cur, rfl, hbg, hg, hnc, hcm, hcs, htake⟩
    · omega
    · refine ⟨g', cap', rfl, (Row.ofOwn hs (n := rs.length + 1) ?_ hrs').1, hbg⟩
      rw [hflat]
      exact ⟨ho.1, .inr ⟨g', cap', cur, rfl, Nat.zero_le _, hg, hnc, hcm, hcs, htake⟩⟩
  rcases hown with ⟨rfl, rfl⟩ | ⟨g, cap, rfl, hR⟩
  · obtain ⟨v', w', hrun, ho, hg, _⟩ := run_append_own (P := P) w w.heap.size t ty e i z s i.bytes ht hi hz hsize rfl hzs hs (.slice none 0 0) 0 [] (World.ownsRow_nil w _ e s) ⟨b, 0, none⟩ 1 1 r (by rw [← hsize]; exact hl) hnews h1
      (by simpa using hmax) (by simpa using hbytes) (Nat.le_refl _)
    obtain ⟨g', cap', rfl, hR, hbg⟩ := fin v' w' _ (by simpa using ho)
    have hx := run_append_nil (P := P) w t ty e i z ht hi hz ⟨b, 0, none⟩ 1 1 r hl hnews (by decide) (by decide) (by simp only [List.length_nil, Nat.zero_add, Nat.one_mul] at hbytes ⊢; omega)
    have hw : w' = w.drew.alloc (.cells (r.toArray ++ Builtin.zeroCells z.cells (grownCap w 1 0 e - 1)) e) := by
      rw [hx] at hrun; injection hrun with _ h; exact h.symm
    exact ⟨g', cap', w', hrun, hR, by rw [hw]; exact (Fr.refl _ w).drew.alloc, .inr hbg⟩
  · have hO := hR.toOwn hs
    by_cases hroom : rs.length + 1 ≤ cap
    · obtain ⟨w', hrun, ho, hg⟩ := run_append_fits (P := P) w 0 t ty e i s ht hi hsize g rs.length cap rs.flatten hO ⟨b, 0, none⟩ 1 1 r (by rw [← hsize]; exact hl) hnews h1 hroom
      obtain ⟨g', cap', he, hR', _⟩ := fin _ w' _ ho
      simp only [Value.slice.injEq, Option.some.injEq, Addr.mk.injEq, and_true, true_and] at he
      obtain ⟨rfl, rfl⟩ := he
      have hfr : ∀ a, w'.frozen? a = w.frozen? a := by
        obtain ⟨cur, hbk, hcs, _⟩ := hR
        have hx := run_append_room (P := P) w t ty e i ht hi g rs.length cap cur hbk ⟨b, 0, none⟩ 1 1 r hl hnews h1 hroom (by
          have : (rs.length + 1) * s ≤ cap * s := Nat.mul_le_mul_right s hroom
          rw [Nat.add_mul] at this; rw [hsize, hcs, hr]; omega)
        rw [hx] at hrun
        injection hrun with _ hw
        intro x
        rw [← hw]
        exact frozen_setRow w g _ x
      exact ⟨g, cap, w', hrun, hR', Fr.of_grown hg hfr (by simp [Value.ownBlock]), .inl rfl⟩
    · have hcap := hR.cap_le
      have hl2 := flat_len hrs
      have holds := hO.cells (g := g) rfl
      have hrun := run_append_grow (P := P) w t ty e i z ht hi hz ⟨g, 0, none⟩ rs.length cap rs.flatten (by rw [hl2, hsize]) holds ⟨b, 0, none⟩ 1 1 r hl hnews (by omega) (by simp only [maxLen] at hmax; omega) (growslice_fits (by omega) hbytes)
      have hge := grownCap_ge w (rs.length + 1) cap e
      refine ⟨_, _, _, hrun, (Row.ofOwn hs (n := rs.length + 1) ?_ hrs').1, (Fr.refl _ w).drew.alloc, .inr (Nat.le_refl _)⟩
      rw [hflat]
      refine ⟨by rw [List.length_append, hl2, hr, Nat.add_mul]; omega, .inr ⟨w.heap.size, _, _, rfl, Nat.zero_le _, Blk.newd, hge, grownCap_le_maxLen w _ cap e hmax, ?_, ?_⟩⟩
      · simp only [Array.size_append, List.size_toArray, size_zeroCells, hzs, hl2, hr]
        rw [← Nat.succ_mul, ← Nat.add_mul]
        congr 1
        omega
      · have : (rs.flatten ++ r).length = (rs.length + 1) * s := by rw [List.length_append, hl2, hr, Nat.add_mul]; omega
        rw [← this]
        simp only [Array.toList_append, List.append_assoc]
        rw [← List.append_assoc]
        exact List.take_left

end Go.Proofs.Ytjmlfknogjaemaa.Vc
