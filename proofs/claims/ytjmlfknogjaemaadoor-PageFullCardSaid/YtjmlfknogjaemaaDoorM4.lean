/- A plan of a region where some loads are taken first and watched: what they read stays. -/
import Derived.Test.YtjmlfknogjaemaaDoorM3
set_option linter.unusedSimpArgs false
set_option linter.unusedVariables false
namespace Go.Proofs.YtjmlfknogjaemaaDoor.Vc
open Go

section
variable {P : Program} {ops : Array Oper} {Q : Exit → Act → World → Prop} {n : Nat}
def wpAnyJ (P : Program) (ops : Array Oper) (Q : Exit → Act → World → Prop) (J : World → Prop) : Nat → Array Bool → Act → World → Prop
  | 0, listed, a, w => Region.ready .any ops listed = [] ∧ Q .normal a w
  | fuel + 1, listed, a, w =>
    (Region.ready .any ops listed = [] → Q .normal a w) ∧
    ∀ i ∈ Region.ready .any ops listed, wpOpC P ops Q i (fun a' w' => J w' ∧ wpAnyJ P ops Q J fuel (listed.setIfInBounds i true) a' w') a w
theorem wpAnyJ_mono {J J' : World → Prop} (hJ : ∀ w, J w → J' w) : ∀ (fuel : Nat) (listed : Array Bool) (a : Act) (w : World), wpAnyJ P ops Q J fuel listed a w → wpAnyJ P ops Q J' fuel listed a w
  | 0, _, _, _, h => h
  | fuel + 1, _, _, _, h => ⟨h.1, fun i hi => wpOpC_mono (fun a' w' h' => ⟨hJ _ h'.1, wpAnyJ_mono hJ fuel _ a' w' h'.2⟩) (h.2 i hi)⟩
theorem wpAnyC_of_J {J : World → Prop} : ∀ (fuel : Nat) (listed : Array Bool) (a : Act) (w : World), wpAnyJ P ops Q J fuel listed a w → wpAnyC P ops Q fuel listed a w
  | 0, _, _, _, h => h
  | fuel + 1, _, _, _, h => ⟨h.1, fun i hi => wpOpC_mono (fun a' w' h' => wpAnyC_of_J fuel _ a' w' h'.2) (h.2 i hi)⟩
/-- What it does wherever J holds. -/
def YieldsJ (P : Program) (ops : Array Oper) (J : World → Prop) (o : Oper) (v : Value) (a : Act) : Prop :=
  (Region.wanted o (yielded ops a.tmps) = true ∧ (∀ w, J w → (execOp a.eval o).run P w = .ok (.value v) w) ∧ SoftAt P o a.eval) ∨ (Region.wanted o (yielded ops a.tmps) = false ∧ v = undef)
theorem YieldsJ.of_same {J : World → Prop} {o : Oper} {v : Value} {a a' : Act} (hy : YieldsJ P ops J o v a) (he : execOp a'.eval o = execOp a.eval o)
    (hw : Region.wanted o (yielded ops a'.tmps) = Region.wanted o (yielded ops a.tmps)) : YieldsJ P ops J o v a' := by
  unfold YieldsJ SoftAt at *
  rw [he, hw]
  exact hy
theorem YieldsJ.wpOpC {J : World → Prop} {i : Nat} {oi : Oper} {v : Value} {a : Act} {w : World} {K : Act → World → Prop} (hi : ops[i]? = some oi) (h : YieldsJ P ops J oi v a) (hj : J w) (hk : K (a.put oi.dst v) w) : Vc.wpOpC P ops Q i K a w := by
  refine ⟨fun o ho hs hw => ?_, ?_⟩
  · rw [hi] at ho
    injection ho with ho
    subst ho
    rcases h with ⟨_, _, h4⟩ | ⟨h1, _⟩
    · exact h4
    · rw [h1] at hw; cases hw
  · unfold wpOp
    simp only [hi]
    rcases h with ⟨h1, h2, _⟩ | ⟨h1, rfl⟩
    · simp only [h1, if_true]
      left
      unfold Oper.wp
      rw [h2 w hj]
      exact hk
    · simp only [h1, Bool.false_eq_true, if_false]
      exact hk
theorem wpOp_putJ {J : World → Prop} {j : Nat} {oi oj : Oper} {v : Value} (hj : ops[j]? = some oj) (hap : oi.apart ops oj = true)
    (hsi : ∀ cs b, oi.op ≠ .select cs b) (hsj : ∀ cs b, oj.op ≠ .select cs b)
    (hQ : ∀ c a w, Q (.panic c) (a.put oi.dst v) w → Q (.panic c) a w) {K : Act → World → Prop} {a : Act} {w : World}
    (hy : YieldsJ P ops J oi v a) (h : wpOp P ops Q j K (a.put oi.dst v) w) :
    wpOp P ops Q j (fun a' w' => YieldsJ P ops J oi v a' ∧ K (a'.put oi.dst v) w') a w := by
  obtain ⟨h1, h2, h3⟩ := Oper.apart_spec hap
  have keep : ∀ (a : Act), YieldsJ P ops J oi v a → ∀ u, YieldsJ P ops J oi v (a.put oj.dst u) := fun a hy u =>
    hy.of_same (execOp_put oi hsi a oj.dst u h3) (wanted_put oi a oj.dst u h3)
  have keepD : ∀ d, YieldsJ P ops J oi v { a with defers := d :: a.defers } := fun d => hy.of_same rfl rfl
  unfold wpOp at *
  simp only [hj] at *
  rw [wanted_put oj a oi.dst v h1] at h
  split
  · rename_i hw
    simp only [hw, if_true] at h
    rcases h with h | ⟨hasks, hlets⟩
    case inr => exact .inr ⟨by unfold Oper.asks at *; rw [execOp_put oj hsj a oi.dst v h1] at hasks; exact hasks, hlets⟩
    refine .inl ?_
    unfold Oper.wp at *
    rw [execOp_put oj hsj a oi.dst v h1] at h
    generalize (execOp a.eval oj).run P w = r at *
    cases r with
    | ok n w' =>
      cases n <;> simp only [Oper.upon] at h ⊢
      case value u => exact ⟨keep a hy u, by rw [← Act.put_comm a v u h2]; exact h⟩
      case skip => exact ⟨keep a hy _, by rw [← Act.put_comm a v undef h2]; exact h⟩
      case defer d =>
        refine ⟨keep _ (keepD d) _, ?_⟩
        rw [← Act.put_comm _ v undef h2, ← Act.put_defers]
        exact h
      case enter f args =>
        refine Calls.mono h fun e w'' he => ?_
        cases e with
        | returned u => exact ⟨keep a hy u, by rw [← Act.put_comm a v u h2]; exact he⟩
        | panicked c => exact hQ _ _ _ he
        | outgrown => exact he
      case row row args => exact Rows.mono h fun u w'' he => ⟨keep a hy u, by rw [← Act.put_comm a v u h2]; exact he⟩
    | halt x w' =>
      cases x <;> simp only [Oper.upon] at h ⊢
      case panic u => exact hQ _ _ _ h
  · rename_i hw
    simp only [hw] at h
    exact ⟨keep a hy _, by rw [← Act.put_comm a v undef h2]; simpa using h⟩
/-- Taking first what yields the same wherever J holds. -/
theorem wpAnyJ_first (hQ : Calm Q) (hsel : NoSel ops) {J : World → Prop} {i : Nat} {oi : Oper} {v : Value} (hi : ops[i]? = some oi) :
    ∀ (fuel : Nat) (listed : Array Bool) (a : Act) (w : World), J w →
      (∀ j oj, ops[j]? = some oj → j ≠ i → listed.getD j true = false → (∀ e ∈ oj.after, Region.binds .any e = true → e.on ≠ i) → oi.apart ops oj = true) →
      i ∈ Region.ready .any ops listed → YieldsJ P ops J oi v a →
      wpAnyJ P ops Q J fuel (listed.setIfInBounds i true) (a.put oi.dst v) w → wpAnyJ P ops Q J (fuel + 1) listed a w := by
  intro fuel
  induction fuel with
  | zero =>
    intro listed a w hJ hfree hr hy H
    refine ⟨fun h => (by rw [h] at hr; cases hr), fun j hj => ?_⟩
    by_cases hji : j = i
    · subst hji; exact hy.wpOpC hi hJ ⟨hJ, H⟩
    · have := ready_mono hj hji
      rw [H.1] at this
      cases this
  | succ fuel ih =>
    intro listed a w hJ hfree hr hy H
    refine ⟨fun h => (by rw [h] at hr; cases hr), fun j hj => ?_⟩
    by_cases hji : j = i
    · subst hji; exact hy.wpOpC hi hJ ⟨hJ, H⟩
    · have h1 := H.2 j (ready_mono hj hji)
      obtain ⟨hjun, oj, hoj, hall⟩ := mem_ready.1 hj
      have hnot : ∀ e ∈ oj.after, Region.binds .any e = true → e.on ≠ i := fun e he hb heq => by
        have h1 := hall e he hb
        have h0 := (mem_ready.1 hr).1
        rw [heq] at h1
        rcases Nat.lt_or_ge i listed.size with h' | h'
        · simp [h'] at h0 h1; rw [h0] at h1; cases h1
        · simp [Array.getElem?_eq_none h'] at h1
      have hap := hfree j oj hoj hji hjun hnot
      have h2 := wpOp_putJ (P := P) (Q := Q) hoj hap (fun cs b => hsel i oi cs b hi) (fun cs b => hsel j oj cs b hoj) (fun c a w hh => absurd hh (hQ.panic _ _ _)) hy h1.2
      have hfree' : ∀ k ok, ops[k]? = some ok → k ≠ i → (listed.setIfInBounds j true).getD k true = false →
          (∀ e ∈ ok.after, Region.binds .any e = true → e.on ≠ i) → oi.apart ops ok = true := fun k ok hk hki hun hno => by
        refine hfree k ok hk hki ?_ hno
        by_cases hjk : j = k
        · subst hjk; exact hjun
        · rw [getD_set_ne true hjk] at hun; exact hun
      refine ⟨softNow_put hoj (fun cs b => hsel j oj cs b hoj) (Oper.apart_spec hap).1 h1.1, wpOp_mono (fun a' w' h3 => ⟨h3.2.1, ih (listed.setIfInBounds j true) a' w' h3.2.1 hfree' (ready_mono hr (Ne.symm hji)) h3.1 ?_⟩) h2⟩
      rw [Array.setIfInBounds_comm _ _ hji]
      exact h3.2.2
theorem still_run {t : TypeId} {x v : Value} {w : World} (h : stillV P t x v w) : (Instr.loadAt t x).run P w = .ok v w := by
  unfold stillV at h
  split at h
  · rename_i b s
    split at h
    · rename_i ha hh
      obtain ⟨d, i, hd, hi⟩ := hasT_spec hh
      simp only [Instr.loadAt, Instr.sureAddr, loadVar, Sem.run_bind, Sem.run_pure, Result.andThen_ok, run_isAgg' hd, ha]
      simp [load, Sem.run, h]
    · exact h.elim
  · exact h.elim
variable {e : Env} {a : Act} {w : World}
theorem free_spec {listed : Array Bool} {i : Nat} {o : Oper} (ho : ops[i]? = some o) (hfree : freeB ops listed i = true) :
    ∀ j oj, ops[j]? = some oj → j ≠ i → listed.getD j true = false → (∀ e ∈ oj.after, Region.binds .any e = true → e.on ≠ i) → o.apart ops oj = true := by
  intro j oj hj hji hun hno
  unfold freeB at hfree
  rw [ho] at hfree
  have h1 := List.all_eq_true.1 hfree j (List.mem_range.2 (Array.getElem?_eq_some_iff.1 hj).1)
  have hu : unl listed j = true := by simp only [unl, hun]
  rw [hu] at h1
  simp only [hj] at h1
  have hb : Nat.beq j i = false := by
    cases hb : Nat.beq j i with
    | false => rfl
    | true => exact absurd (Nat.eq_of_beq_eq_true hb) hji
  rw [hb, Bool.false_or, Bool.or_eq_true] at h1
  rcases h1 with h1 | h1
  · obtain ⟨e, he, h2⟩ := List.any_eq_true.1 h1
    rw [Bool.and_eq_true] at h2
    exact absurd (Nat.eq_of_beq_eq_true h2.2) (hno e (by simpa using he) h2.1)
  · exact h1
theorem planW_sound (hQ : Calm Q) (hsel : NoSel ops) (hdst : ∀ (i : Nat) (o : Oper), ops[i]? = some o → ∀ d, o.dst = some d → d < n) {K : Env → World → Prop}
    (hq : ∀ a w, liftK n K a w → Q .normal a w) : ∀ (fuel : Nat) (listed : Array Bool) (e : Env) (a : Act) (w : World) (J : World → Prop), J w → Rep n a e →
      planW P ops fuel listed e w J K → wpAnyJ P ops Q J fuel listed a w := by
  intro fuel
  induction fuel with
  | zero =>
    intro listed e a w J hJ hr h
    unfold planW at h
    split at h
    · rename_i hre
      exact ⟨hre, hq _ _ ⟨e, hr, h⟩⟩
    · exact h.elim
  | succ fuel ih =>
    intro listed e a w J hJ hr h
    unfold planW at h
    simp only [normA_eq] at h
    split at h
    · rename_i hre
      exact ⟨fun _ => hq _ _ ⟨e, hr, h⟩, fun i hi => by rw [hre] at hi; cases hi⟩
    · rename_i r rs hre
      split at h
      · rename_i i hf
        have hmem := List.mem_of_find?_eq_some hf
        have hprop := List.find?_some hf
        rw [Bool.and_eq_true] at hprop
        obtain ⟨hpure, hfree⟩ := hprop
        rw [← hre] at hmem
        unfold stepV at h
        split at h
        · rename_i o ho
          have hp : pureB P o e = true ∨ skipB ops e o = true := by simpa [pureAt, ho] using hpure
          have hfree' := free_spec ho hfree
          rcases goV_cases hr h with ⟨hw, e', hr', he, h2⟩ | ⟨hw, e', hr', h⟩
          · have : e' = e := funext he
            subst this
            have hp : pureB P o e' = true := by
              rcases hp with hp | hp
              · exact hp
              · rw [skip_wanted hr hp] at hw; cases hw
            obtain ⟨v, hv, hk⟩ := opV_pure hp h2
            refine wpAnyJ_first hQ hsel ho fuel listed a w hJ hfree' hmem (v := v) (.inl ⟨hw, ?_, ?_⟩) (ih _ _ _ _ J hJ (hr'.put o.dst v (hdst i o ho)) hk)
            · intro w2 _; rw [hr'.evals]; exact hv w2
            · rw [hr'.evals]; exact PureAt.soft hv
          · exact wpAnyJ_first hQ hsel ho fuel listed a w hJ hfree' hmem (v := undef) (.inr ⟨hw, rfl⟩) (ih _ _ _ _ J hJ (hr'.put o.dst undef (hdst i o ho)) h)
        · exact h.elim
      · split at h
        · exact h.elim
        · rename_i hwell
          have hwell' : ∀ i ∈ Region.ready .any ops listed, wellB P ops e i = true := by
            intro i hi
            rw [hre] at hi
            exact List.all_eq_true.1 hwell i hi
          split at h
          · rename_i i hf
            have hmem := List.mem_of_find?_eq_some hf
            have hwt : watchB ops listed i = true := List.find?_some hf
            rw [← hre] at hmem
            split at h
            · rename_i d t x ty pos after ho
              split at h
              · rename_i ha hh
                unfold stepV at h
                rw [ho] at h
                unfold watchB at hwt
                rw [ho] at hwt
                have hwt : freeB ops listed i = true := by simpa [isLoad] using hwt
                have hfree' := free_spec ho hwt
                have h2 : opV P ⟨some d, .load t x, ty, pos, after, none⟩ e w fun v w' => planW P ops fuel (listed.setIfInBounds i true) (putE e (some d) v) w' (fun w2 => stillV P t (ev e x) (putE e (some d) v d) w2 ∧ J w2) K := h
                have hput : ∀ v, putE e (some d) v d = v := fun v => by simp [putE, upd]
                have h3 : ∃ v, stillV P t (ev e x) v w ∧ planW P ops fuel (listed.setIfInBounds i true) (putE e (some d) v) w (fun w2 => stillV P t (ev e x) v w2 ∧ J w2) K := by
                  simp only [opV, ha, hh] at h2
                  unfold stillV
                  split at h2
                  · rename_i b s hx
                    try rw [hx]
                    simp only [ha, hh]
                    obtain ⟨v, hv, hk⟩ := Shape.ex_some h2
                    rw [hput] at hk
                    unfold stillV at hk
                    try rw [hx] at hk
                    simp only [ha, hh] at hk
                    exact ⟨v, hv, hk⟩
                  · exact h2.elim
                obtain ⟨v, hv, hk⟩ := h3
                have hw : Region.wanted (⟨some d, .load t x, ty, pos, after, none⟩ : Oper) (yielded ops a.tmps) = true := by simp [Region.wanted]
                have hJ' : (fun w2 => stillV P t (ev e x) v w2 ∧ J w2) w := ⟨hv, hJ⟩
                refine wpAnyJ_mono (J := fun w2 => stillV P t (ev e x) v w2 ∧ J w2) (fun w h => h.2) _ _ _ _ ?_
                refine wpAnyJ_first hQ hsel ho fuel listed a w hJ' hfree' hmem (v := v) (.inl ⟨hw, ?_, soft_load rfl⟩) (ih _ _ _ _ _ hJ' (hr.put (some d) v (hdst i _ ho)) hk)
                intro w2 hw2
                rw [hr.evals]
                simp only [execOp, Sem.run_bind, still_run hw2.1, Result.andThen_ok, Sem.run_pure]
              · exact h.elim
            · exact h.elim
          · have each : ∀ i ∈ Region.ready .any ops listed, stepV P ops e w i (fun e' w' => J w' ∧ planW P ops fuel (listed.setIfInBounds i true) e' w' J K) →
                wpOpC P ops Q i (fun a' w' => J w' ∧ wpAnyJ P ops Q J fuel (listed.setIfInBounds i true) a' w') a w := by
              intro i hi hst
              unfold stepV at hst
              split at hst
              · rename_i o ho
                refine wpOpC_mono ?_ (goV_wpOpC ho (hdst i o ho) hr (hwell' i hi) hst)
                rintro a' w' ⟨e', hr', hj, hp⟩
                exact ⟨hj, ih _ e' a' w' J hj hr' hp⟩
              · exact hst.elim
            refine ⟨fun h0 => (by rw [hre] at h0; cases h0), fun i hi => ?_⟩
            split at h
            · have : i = r := by rw [hre] at hi; simpa using hi
              subst this
              exact each i hi h
            · rw [hre] at hi
              have pick : ∀ (l : List Nat) (F : Nat → Prop), allOf l F → i ∈ l → F i := by
                intro l
                induction l with
                | nil => intro F _ hi; cases hi
                | cons x l ih =>
                  intro F hF hi
                  rcases List.mem_cons.1 hi with rfl | hi
                  · exact hF.1
                  · exact ih F hF.2 hi
              exact each i (by rw [hre]; exact hi) (pick _ _ h hi)
theorem regionW_sound (hmix : P.follows .mixedOrders = true) (hQ : Calm Q) (hdst : ∀ (o : Oper), o ∈ ops.toList → ∀ d, o.dst = some d → d < n) {K : Env → World → Prop} (hq : ∀ a w, liftK n K a w → Q .normal a w)
    {id : Nat} {draw : Bool} (hr : Rep n a e) (h : regionW P ops draw e w K) : (Code.region id ops draw).wp P Q a w := by
  unfold regionW at h
  split at h
  · rename_i hsel
    have hsel' : NoSel ops := by
      intro j o cs b hj ho
      have hmem : o ∈ ops.toList := by
        have := Array.mem_of_getElem? hj
        simpa using this
      have : ops.toList.any isSelect = true := List.any_eq_true.2 ⟨o, hmem, by simp [isSelect, ho]⟩
      rw [hsel] at this
      cases this
    refine wp_region_any hmix (wpAny_of_C _ _ _ _ (wpAnyC_of_J (J := fun _ => True) _ _ _ _ ?_))
    exact planW_sound hQ hsel' (fun i o ho d hd => hdst o (by have := Array.mem_of_getElem? ho; simpa using this) d hd) hq ops.size _ e a w.drew (fun _ => True) trivial hr h
  · exact h.elim
end
end Go.Proofs.YtjmlfknogjaemaaDoor.Vc
/- From a function's plain statement to what a call of it does. -/
set_option linter.unusedSimpArgs false
set_option linter.unusedVariables false
namespace Go.Proofs.YtjmlfknogjaemaaDoor.Vc
open Go

section
variable {P : Program} {n : Nat}

def liftQ (n : Nat) (Q : Exit → Env → World → Prop) : Exit → Act → World → Prop := fun ex a w =>
  match ex with
  | .panic _ => False
  | .outgrown => False
  | ex => ∃ e, Rep n a e ∧ Q ex e w
theorem calm_lift (Q : Exit → Env → World → Prop) : Calm (liftQ n Q) := ⟨fun _ _ _ h => h, fun _ _ h => h⟩

theorem atV_spec {α : Type} {s : Shape} {f : s.Fn α} {F : Value → α → Prop} {G : α → Prop} {v : Value} (hall : s.allV f F) (hat : s.atV f v G) : ∃ x, F v x ∧ G x := by
  cases s <;> cases v <;> simp only [Shape.atV] at hat <;> simp only [Shape.allV] at hall
  case int.int k k' x =>
    split at hat
    · rename_i hk
      have : k = k' := by simpa using hk
      subst this
      exact ⟨_, hall x, hat⟩
    · exact hat.elim
  case flt.float k k' x =>
    split at hat
    · rename_i hk
      have : k = k' := by simpa using hk
      subst this
      exact ⟨_, hall x, hat⟩
    · exact hat.elim
  case slice.slice A m c => exact ⟨_, hall A m c, hat⟩
  case blk.pointer p =>
    split at hat
    · exact ⟨_, hall _ _, hat⟩
    · exact hat.elim
  all_goals exact ⟨_, hall _, hat⟩
theorem appV_spec {α : Type} : ∀ {l : List (Nat × Shape)} {I : FnV l α} {e0 e : Env} {F : Env → α → Prop} {G : α → Prop}, allV l I e0 F → appV l I e G →
    ∃ e1 x, F e1 x ∧ G x ∧ ∀ t, e1 t = if t ∈ l.map (·.1) then e t else e0 t := by
  intro l
  induction l with
  | nil =>
    intro I e0 e F G hall hat
    exact ⟨e0, I, hall, hat, fun t => by simp⟩
  | cons p l ih =>
    obtain ⟨t0, s⟩ := p
    intro I e0 e F G hall hat
    obtain ⟨I', h1, h2⟩ := atV_spec (F := fun v I' => allV l I' (upd e0 t0 v) F) (G := fun I' => appV l I' e G) hall hat
    obtain ⟨e1, x, h3, h4, h5⟩ := ih h1 h2
    refine ⟨e1, x, h3, h4, fun t => ?_⟩
    rw [h5 t]
    by_cases ht : t ∈ l.map (·.1)
    · rw [if_pos ht, if_pos (by simp only [List.map_cons, List.mem_cons]; exact .inr ht)]
    · rw [if_neg ht]
      by_cases h0 : t = t0
      · subst h0
        rw [upd_same, if_pos (by simp)]
      · rw [upd_other _ _ _ _ h0, if_neg (by simp only [List.map_cons, List.mem_cons]; rintro (h | h); exact h0 h; exact ht h)]
theorem memN_iff (l : List Nat) (t : Nat) : memN l t = true ↔ t ∈ l := by
  induction l with
  | nil => simp [memN]
  | cons x l ih =>
    unfold memN
    split
    · rename_i h
      have := Nat.eq_of_beq_eq_true h
      simp [this]
    · rename_i h
      have : t ≠ x := fun e => by subst e; simp at h
      rw [ih]
      simp [this]
theorem valsE_spec {l : List Nat} {e e' : Env} (h : valsE l e' = valsE l e) : ∀ t ∈ l, e' t = e t := by
  intro t ht
  have := List.map_inj_left.1 h t ht
  exact this
theorem keep_back {an : Ann} {e e0 e1 : Env} (hk : ∀ t ∈ an.keep, e0 t = e t) (h1 : ∀ t, e1 t = if t ∈ an.live.map (·.1) then e0 t else keepE e an.keep e0 t) : e1 = e0 := by
  funext t
  rw [h1 t]
  split
  · rfl
  · unfold keepE
    split
    · rename_i hm
      exact (hk t ((memN_iff _ _).1 hm)).symm
    · rfl

theorem wp_loop' {Q : Exit → Act → World → Prop} {c : Code} (I : Act → World → Nat → Prop) {a : Act} {w : World} {k : Nat} (h₀ : I a w k)
    (round : ∀ a w n, I a w n → c.wp P (Exit.then (fun a' w' => ∃ m, m < n ∧ I a' w' m) Q) a w) : (Code.loop c).wp P Q a w := by
  intro b kk cs
  have key : ∀ n a w, I a w n → ∃ e a' w', Q e a' w' ∧ Arrives P (lone (b.at a (.code c :: .inLoop c :: kk)) cs w) b kk cs e a' w' := by
    intro n
    induction n using Nat.strongRecOn with
    | _ n ih =>
      intro a w hI
      obtain ⟨e, a₁, w₁, hq, harr⟩ := round a w n hI b (.inLoop c :: kk) cs
      cases e with
      | normal =>
        obtain ⟨m, hlt, hI₁⟩ := hq
        obtain ⟨e₂, a₂, w₂, hq₂, harr₂⟩ := ih m hlt a₁ w₁ hI₁
        exact ⟨e₂, a₂, w₂, hq₂, .of_steps (Steps.trans harr (.one step_inLoop)) harr₂⟩
      | exit id => exact ⟨_, a₁, w₁, hq, .pass (x := .inLoop c) rfl (fun _ _ => .inl (by simp)) harr⟩
      | goto l => exact ⟨_, a₁, w₁, hq, .pass (x := .inLoop c) rfl (fun _ _ => .inl (by simp)) harr⟩
      | ret => exact ⟨_, a₁, w₁, hq, .pass (x := .inLoop c) rfl (fun _ _ => .inl (by simp)) harr⟩
      | panic ch => exact ⟨_, a₁, w₁, hq, .pass (x := .inLoop c) rfl (fun _ _ => .inl (by simp)) harr⟩
      | outgrown => exact ⟨_, a₁, w₁, hq, .pass (x := .inLoop c) rfl (fun _ _ => .inl (by simp)) harr⟩
  obtain ⟨e, a', w', hq, harr⟩ := key _ a w h₀
  exact ⟨e, a', w', hq, .of_steps (.one step_loop) harr⟩

theorem wpV_sound (hmix : P.follows .mixedOrders = true) {AL AC : Nat → Option Ann} : ∀ (c : Code) (Q : Exit → Env → World → Prop) (e : Env) (a : Act) (w : World), dstsOk n c = true → Rep n a e →
    wpV P AL AC c Q e w → c.wp P (liftQ n Q) a w := by
  intro c
  induction c with
  | skip => intro Q e a w _ hr h; exact wp_skip ⟨e, hr, h⟩
  | label l => intro Q e a w _ hr h; exact wp_label ⟨e, hr, h⟩
  | region id ops draw =>
    intro Q e a w hd hr h
    have hdst : ∀ (o : Oper), o ∈ ops.toList → ∀ d, o.dst = some d → d < n := by
      intro o ho d hod
      have := List.all_eq_true.1 hd o ho
      simp only [hod] at this
      exact Nat.lt_of_lt_of_le (Nat.lt_succ_self _) (Nat.le_of_ble_eq_true this)
    simp only [wpV] at h
    split at h
    · exact regionV_sound hmix (calm_lift Q) (K := Q .normal) (n := n) hdst (fun a w ⟨e, h1, h2⟩ => ⟨e, h1, h2⟩) hr h
    · exact regionW_sound hmix (calm_lift Q) (K := Q .normal) (n := n) hdst (fun a w ⟨e, h1, h2⟩ => ⟨e, h1, h2⟩) hr h
  | seq x y ihx ihy =>
    intro Q e a w hd hr h
    simp only [dstsOk, Bool.and_eq_true] at hd
    unfold wpV at h
    split at h
    · refine wp_seq (wp_mono (ihx _ e a w hd.1 hr h) ?_)
      intro ex a' w' hq
      cases ex with
      | normal => obtain ⟨e', h1, h2⟩ := hq; exact ihy Q e' a' w' hd.2 h1 h2
      | panic ch => exact hq
      | outgrown => exact hq
      | exit id => exact hq
      | goto l => exact hq
      | ret => exact hq
    · rename_i an _
      obtain ⟨M, h1, h2⟩ := h
      refine wp_seq (wp_mono (ihx _ e a w hd.1 hr h1) ?_)
      intro ex a' w' hq
      cases ex with
      | normal =>
        obtain ⟨e', g1, g2, g3⟩ := hq
        obtain ⟨e1, J, g4, g5, g6⟩ := appV_spec (h2 e') g3
        have : e1 = e' := keep_back (valsE_spec g2) g6
        subst this
        exact ihy Q e1 a' w' hd.2 g1 (g4 w' g5)
      | panic ch => exact hq
      | outgrown => exact hq
      | exit id => exact hq
      | goto l => exact hq
      | ret => exact hq
  | cond x y z ihy ihz =>
    intro Q e a w hd hr h
    simp only [dstsOk, Bool.and_eq_true] at hd
    unfold wpV at h
    split at h
    · rename_i t ht
      refine wp_cond (t := t) (by rw [hr.eval]; exact ht) ?_
      cases t
      · exact ihz Q e a w hd.2 hr h
      · exact ihy Q e a w hd.1 hr h
    · exact h.elim
  | block id c ih =>
    intro Q e a w hd hr h
    refine wp_block (wp_mono (ih _ e a w hd hr h) ?_)
    intro ex a' w' hq
    cases ex with
    | normal => exact hq
    | panic ch => exact hq
    | outgrown => exact hq
    | goto l => exact hq
    | ret => exact hq
    | exit i =>
      obtain ⟨e', h1, h2⟩ := hq
      simp only [Exit.inBlock]
      by_cases hi : i = id
      · subst hi
        rw [if_pos rfl]
        refine ⟨e', h1, ?_⟩
        have : Nat.beq i i = true := Nat.beq_refl i
        simpa [this] using h2
      · rw [if_neg hi]
        refine ⟨e', h1, ?_⟩
        have : Nat.beq i id = false := by
          cases hb : Nat.beq i id with
          | false => rfl
          | true => exact absurd (Nat.eq_of_beq_eq_true hb) hi
        simpa [this] using h2
  | loop c ih =>
    intro Q e a w hd hr h
    unfold wpV at h
    split at h
    · exact h.elim
    · rename_i an _
      obtain ⟨I, ⟨k, h0⟩, h1⟩ := h
      refine wp_loop' (fun a' w' n' => ∃ e0, Rep n a' e0 ∧ (∀ t ∈ an.keep, e0 t = e t) ∧ appV an.live I e0 fun J => J w' n') ⟨e, hr, fun _ _ => rfl, h0⟩ ?_
      rintro a' w' n' ⟨e0, g1, g2, g3⟩
      obtain ⟨e1, J, g4, g5, g6⟩ := appV_spec (h1 e0) g3
      have : e1 = e0 := keep_back g2 g6
      subst this
      refine wp_mono (ih _ e1 a' w' hd g1 (g4 w' n' g5)) ?_
      intro ex a'' w'' hq
      cases ex with
      | normal =>
        obtain ⟨e'', q1, q2, m, q3, q4⟩ := hq
        exact ⟨m, q3, e'', q1, valsE_spec q2, q4⟩
      | panic ch => exact hq
      | outgrown => exact hq
      | exit id => exact hq
      | goto l => exact hq
      | ret => exact hq
  | exit id => intro Q e a w _ hr h; exact wp_exit ⟨e, hr, h⟩
  | goto l => intro Q e a w _ hr h; exact wp_goto ⟨e, hr, h⟩
  | ret => intro Q e a w _ hr h; exact wp_ret ⟨e, hr, h⟩
  | rangeFunc _ _ _ _ _ _ => intro Q e a w _ hr h; exact h.elim
  | scope c ih => intro Q e a w _ hr h; exact h.elim
  | refuse s => intro Q e a w _ hr h; exact h.elim

def resF (tmps : Array Value) : ResultVar → Sem Value
  | .tmp t => pure (tmps.getD t undef)
  | .cell p t => do loadVar t (← asAddr (tmps.getD p undef))
theorem results_eq (fn : Func) (tmps : Array Value) : results fn tmps = (do
    let vs ← fn.results.mapM (resF tmps)
    pure (if h : vs.size = 1 then vs[0] else .tuple vs)) := rfl
theorem run_results {fn : Func} {a : Act} {e : Env} {w : World} {R : Value → World → Prop} (hr : Rep n a e)
    (h : retsV P e w fn.results.toList fun vs => R (tupled vs) w) : ∃ v, (results fn a.tmps).run P w = .ok v w ∧ R v w := by
  have key : ∀ (l : List ResultVar) (F : List Value → Prop), retsV P e w l F → ∃ vs, (l.mapM (resF a.tmps)).run P w = .ok vs w ∧ F vs := by
    intro l
    induction l with
    | nil => intro F h; exact ⟨[], by simp, h⟩
    | cons r l ih =>
      intro F h
      cases r with
      | tmp t =>
        obtain ⟨vs, h1, h2⟩ := ih _ h
        refine ⟨_, ?_, h2⟩
        have h5 : (resF a.tmps (.tmp t)).run P w = .ok (e t) w := by simp [resF, hr.val]
        simp only [List.mapM_cons, Sem.run_bind, Sem.run_pure, Result.andThen_ok, h1, h5]
      | cell p t =>
        simp only [retsV] at h
        have hp : ∃ ad, e p = .pointer (some ad) := by
          split at h
          · rename_i hh; exact ⟨_, hh⟩
          · exact h.elim
        obtain ⟨ad, hp⟩ := hp
        obtain ⟨v, h1, h2⟩ := sem_load (P := P) (x := e p) (t := t) (w := w) (K := fun v _ => retsV P e w l fun vs => F (v :: vs)) h
        obtain ⟨vs, h3, h4⟩ := ih _ h2
        refine ⟨_, ?_, h4⟩
        have h5 : (resF a.tmps (.cell p t)).run P w = .ok v w := by
          rw [hp] at h1
          simpa [resF, hr.val, hp, asAddr, Instr.loadAt, Instr.sureAddr] using h1
        simp only [List.mapM_cons, Sem.run_bind, Sem.run_pure, Result.andThen_ok, h5, h3]
  obtain ⟨vs, h1, h2⟩ := key _ _ h
  refine ⟨tupled vs, ?_, h2⟩
  rw [results_eq, Sem.run_bind, Array.mapM_eq_mapM_toList]
  have h6 : (List.toArray <$> fn.results.toList.mapM (resF a.tmps)).run P w = .ok vs.toArray w := by
    rw [map_eq_pure_bind]
    simp [h1]
  rw [h6]
  simp only [Result.andThen_ok, Sem.run_pure]
  congr 1
  match vs with
  | [] => rfl
  | [v] => rfl
  | _ :: _ :: _ => simp [tupled]

theorem funV_sound (hmix : P.follows .mixedOrders = true) {AL AC : Nat → Option Ann} {f : FuncId} {fn : Func} (hf : P.funcs[f]? = some fn) {args : Array Value} {w : World} {R : Value → World → Prop}
    (h : funV P fn AL AC args w R) : Calls P f args w fun e w' => ∃ v, e = .returned v ∧ R v w' := by
  unfold funV at h
  split at h
  · rename_i c hc
    split at h
    · rename_i hd hsz
      have hsz' : args.size ≤ fn.ntmps := Nat.le_of_ble_eq_true hsz
      refine calls_of_wp hf hc (wp_mono (wpV_sound (n := fn.ntmps) hmix c _ (argsE args) _ w hd ?_ h) ?_)
      · refine ⟨by simp; omega, rfl, fun t => ?_⟩
        unfold argsE
        simp only [Array.getD_eq_getD_getElem?, Array.getElem?_append]
        split
        · rfl
        · rename_i hge
          have : args[t]? = none := by simp; omega
          rw [this]
          by_cases h2 : t - args.size < fn.ntmps - args.size <;> simp [Array.getElem?_replicate, h2]
      · intro ex a' w' hq
        cases ex with
        | normal =>
          obtain ⟨e, h1, h2⟩ := hq
          obtain ⟨v, h3, h4⟩ := run_results h1 h2
          exact ⟨h1.defers, v, h3, v, rfl, h4⟩
        | ret =>
          obtain ⟨e, h1, h2⟩ := hq
          obtain ⟨v, h3, h4⟩ := run_results h1 h2
          exact ⟨h1.defers, v, h3, v, rfl, h4⟩
        | panic ch => exact hq.elim
        | outgrown => exact hq.elim
        | exit id => obtain ⟨e, h1, h2⟩ := hq; exact h2.elim
        | goto l => obtain ⟨e, h1, h2⟩ := hq; exact h2.elim
    · exact h.elim
  · exact h.elim

end
end Go.Proofs.YtjmlfknogjaemaaDoor.Vc
