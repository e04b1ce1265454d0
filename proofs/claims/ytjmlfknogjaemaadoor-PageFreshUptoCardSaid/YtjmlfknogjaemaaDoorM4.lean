/- A plan of a region where some loads are taken first and watched: what they read stays. -/
import Derived.Test.YtjmlfknogjaemaaDoorM3
set_option linter.unusedSimpArgs false
set_option linter.unusedVariables false
namespace Go.Proofs.YtjmlfknogjaemaaDoor.Vc
open Go

section
variable {P : Program} {ops : Array Oper} {Q : Exit → Act → World → Prop} {n : Nat}
def wpAnyJ (P : Program) (ops : Array Oper) (Q : Exit → Act → World → Prop) (J : World → Prop) : Nat → Array Bool → Act → World → Prop
  | 0, listed, a, w => Region.ready .any ops listed = [] ∧ Q .normal a w
  | fuel + 1, listed, a, w =>
    (Region.ready .any ops listed = [] → Q .normal a w) ∧
    ∀ i ∈ Region.ready .any ops listed, wpOpC P ops Q i (fun a' w' => J w' ∧ wpAnyJ P ops Q J fuel (listed.setIfInBounds i true) a' w') a w
theorem wpAnyJ_mono {J J' : World → Prop} (hJ : ∀ w, J w → J' w) : ∀ (fuel : Nat) (listed : Array Bool) (a : Act) (w : World), wpAnyJ P ops Q J fuel listed a w → wpAnyJ P ops Q J' fuel listed a w
  | 0, _, _, _, h => h
  | fuel + 1, _, _, _, h => ⟨h.1, fun i hi => wpOpC_mono (fun a' w' h' => ⟨hJ _ h'.1, wpAnyJ_mono hJ fuel _ a' w' h'.2⟩) (h.2 i hi)⟩
theorem wpAnyC_of_J {J : World → Prop} : ∀ (fuel : Nat) (listed : Array Bool) (a : Act) (w : World), wpAnyJ P ops Q J fuel listed a w → wpAnyC P ops Q fuel listed a w
  | 0, _, _, _, h => h
  | fuel + 1, _, _, _, h => ⟨h.1, fun i hi => wpOpC_mono (fun a' w' h' => wpAnyC_of_J fuel _ a' w' h'.2) (h.2 i hi)⟩
/-- What it does wherever J holds. -/
def YieldsJ (P : Program) (ops : Array Oper) (J : World → Prop) (o : Oper) (v : Value) (a : Act) : Prop :=
  (Region.wanted o (yielded ops a.tmps) = true ∧ (∀ w, J w → (execOp a.eval o).run P w = .ok (.value v) w) ∧ SoftAt P o a.eval) ∨ (Region.wanted o (yielded ops a.tmps) = false ∧ v = undef)
theorem YieldsJ.of_same {J : World → Prop} {o : Oper} {v : Value} {a a' : Act} (hy : YieldsJ P ops J o v a) (he : execOp a'.eval o = execOp a.eval o)
    (hw : Region.wanted o (yielded ops a'.tmps) = Region.wanted o (yielded ops a.tmps)) : YieldsJ P ops J o v a' := by
  unfold YieldsJ SoftAt at *
  rw [he, hw]
  exact hy
theorem YieldsJ.wpOpC {J : World → Prop} {i : Nat} {oi : Oper} {v : Value} {a : Act} {w : World} {K : Act → World → Prop} (hi : ops[i]? = some oi) (h : YieldsJ P ops J oi v a) (hj : J w) (hk : K (a.put oi.dst v) w) : Vc.wpOpC P ops Q i K a w := by
  refine ⟨fun o ho hs hw => ?_, ?_⟩
  · rw [hi] at ho
    injection ho with ho
    subst ho
    rcases h with ⟨_, _, h4⟩ | ⟨h1, _⟩
    · exact h4
    · rw [h1] at hw; cases hw
  · unfold wpOp
    simp only [hi]
    rcases h with ⟨h1, h2, _⟩ | ⟨h1, rfl⟩
    · simp only [h1, if_true]
      left
      unfold Oper.wp
      rw [h2 w hj]
      exact hk
    · simp only [h1, Bool.false_eq_true, if_false]
      exact hk
theorem wpOp_putJ {J : World → Prop} {j : Nat} {oi oj : Oper} {v : Value} (hj : ops[j]? = some oj) (hap : oi.apart ops oj = true)
    (hsi : ∀ cs b, oi.op ≠ .select cs b) (hsj : ∀ cs b, oj.op ≠ .select cs b)
    (hQ : ∀ c a w, Q (.panic c) (a.put oi.dst v) w → Q (.panic c) a w) {K : Act → World → Prop} {a : Act} {w : World}
    (hy : YieldsJ P ops J oi v a) (h : wpOp P ops Q j K (a.put oi.dst v) w) :
    wpOp P ops Q j (fun a' w' => YieldsJ P ops J oi v a' ∧ K (a'.put oi.dst v) w') a w := by
  obtain ⟨h1, h2, h3⟩ := Oper.apart_spec hap
  have keep : ∀ (a : Act), YieldsJ P ops J oi v a → ∀ u, YieldsJ P ops J oi v (a.put oj.dst u) := fun a hy u =>
    hy.of_same (execOp_put oi hsi a oj.dst u h3) (wanted_put oi a oj.dst u h3)
  have keepD : ∀ d, YieldsJ P ops J oi v { a with defers := d :: a.defers } := fun d => hy.of_same rfl rfl
  unfold wpOp at *
  simp only [hj] at *
  rw [wanted_put oj a oi.dst v h1] at h
  split
  · rename_i hw
    simp only [hw, if_true] at h
    rcases h with h | ⟨hasks, hlets⟩
    case inr => exact .inr ⟨by unfold Oper.asks at *; rw [execOp_put oj hsj a oi.dst v h1] at hasks; exact hasks, hlets⟩
    refine .inl ?_
    unfold Oper.wp at *
    rw [execOp_put oj hsj a oi.dst v h1] at h
    generalize (execOp a.eval oj).run P w = r at *
    cases r with
    | ok n w' =>
      cases n <;> simp only [Oper.upon] at h ⊢
      case value u => exact ⟨keep a hy u, by rw [← Act.put_comm a v u h2]; exact h⟩
      case skip => exact ⟨keep a hy _, by rw [← Act.put_comm a v undef h2]; exact h⟩
      case defer d =>
        refine ⟨keep _ (keepD d) _, ?_⟩
        rw [← Act.put_comm _ v undef h2, ← Act.put_defers]
        exact h
      case enter f args =>
        refine Calls.mono h fun e w'' he => ?_
        cases e with
        | returned u => exact ⟨keep a hy u, by rw [← Act.put_comm a v u h2]; exact he⟩
        | panicked c => exact hQ _ _ _ he
        | outgrown => exact he
      case row row args => exact Rows.mono h fun u w'' he => ⟨keep a hy u, by rw [← Act.put_comm a v u h2]; exact he⟩
    | halt x w' =>
      cases x <;> simp only [Oper.upon] at h ⊢
      case panic u => exact hQ _ _ _ h
  · rename_i hw
    simp only [hw] at h
    exact ⟨keep a hy _, by rw [← Act.put_comm a v undef h2]; simpa using h⟩
/-- Taking first what yields the same wherever J holds. -/
theorem wpAnyJ_first (hQ : Calm Q) (hsel : NoSel ops) {J : World → Prop} {i : Nat} {oi : Oper} {v : Value} (hi : ops[i]? = some oi) :
    ∀ (fuel : Nat) (listed : Array Bool) (a : Act) (w : World), J w →
      (∀ j oj, ops[j]? = some oj → j ≠ i → listed.getD j true = false → (∀ e ∈ oj.after, Region.binds .any e = true → e.on ≠ i) → oi.apart ops oj = true) →
      i ∈ Region.ready .any ops listed → YieldsJ P ops J oi v a →
      wpAnyJ P ops Q J fuel (listed.setIfInBounds i true) (a.put oi.dst v) w → wpAnyJ P ops Q J (fuel + 1) listed a w := by
  intro fuel
  induction fuel with
  | zero =>
    intro listed a w hJ hfree hr hy H
    refine ⟨fun h => (by rw [h] at hr; cases hr), fun j hj => ?_⟩
    by_cases hji : j = i
    · subst hji; exact hy.wpOpC hi hJ ⟨hJ, H⟩
    · have := ready_mono hj hji
      rw [H.1] at this
      cases this
  | succ fuel ih =>
    intro listed a w hJ hfree hr hy H
    refine ⟨fun h => (by rw [h] at hr; cases hr), fun j hj => ?_⟩
    by_cases hji : j = i
    · subst hji; exact hy.wpOpC hi hJ ⟨hJ, H⟩
    · have h1 := H.2 j (ready_mono hj hji)
      obtain ⟨hjun, oj, hoj, hall⟩ := mem_ready.1 hj
      have hnot : ∀ e ∈ oj.after, Region.binds .any e = true → e.on ≠ i := fun e he hb heq => by
        have h1 := hall e he hb
        have h0 := (mem_ready.1 hr).1
        rw [heq] at h1
        rcases Nat.lt_or_ge i listed.size with h' | h'
        · simp [h'] at h0 h1; rw [h0] at h1; cases h1
        · simp [Array.getElem?_eq_none h'] at h1
      have hap := hfree j oj hoj hji hjun hnot
      have h2 := wpOp_putJ (P := P) (Q := Q) hoj hap (fun cs b => hsel i oi cs b hi) (fun cs b => hsel j oj cs b hoj) (fun c a w hh => absurd hh (hQ.panic _ _ _)) hy h1.2
      have hfree' : ∀ k ok, ops[k]? = some ok → k ≠ i → (listed.setIfInBounds j true).getD k true = false →
          (∀ e ∈ ok.after, Region.binds .any e = true → e.on ≠ i) → oi.apart ops ok = true := fun k ok hk hki hun hno => by
        refine hfree k ok hk hki ?_ hno
        by_cases hjk : j = k
        · subst hjk; exact hjun
        · rw [getD_set_ne true hjk] at hun; exact hun
      refine ⟨softNow_put hoj (fun cs b => hsel j oj cs b hoj) (Oper.apart_spec hap).1 h1.1, wpOp_mono (fun a' w' h3 => ⟨h3.2.1, ih (listed.setIfInBounds j true) a' w' h3.2.1 hfree' (ready_mono hr (Ne.symm hji)) h3.1 ?_⟩) h2⟩
      rw [Array.setIfInBounds_comm _ _ hji]
      exact h3.2.2
theorem stillC_of {w : World} {b : Nat} : ∀ {vs : List Value} {o : Nat}, (∀ i, i < vs.length → w.cell? ⟨b, o + i, none⟩ = vs[i]?) → stillC w b vs o
  | [], _, _ => trivial
  | v :: l, o, h => ⟨by simpa using h 0 (by simp), stillC_of fun i hi => by
      have := h (i + 1) (by simpa using hi)
      rw [show o + 1 + i = o + (i + 1) by omega]
      simpa using this⟩
theorem stillC_spec {w : World} {b : Nat} : ∀ {vs : List Value} {o : Nat}, stillC w b vs o → ∀ i, i < vs.length → w.cell? ⟨b, o + i, none⟩ = vs[i]?
  | [], _, _, i, hi => by simp at hi
  | v :: l, o, h, 0, _ => by simpa using h.1
  | v :: l, o, h, i + 1, hi => by
    have := stillC_spec h.2 i (by simpa using hi)
    rw [show o + (i + 1) = o + 1 + i by omega]
    simpa using this
theorem still_run {t : TypeId} {x v : Value} {w : World} (h : stillV P t x v w) : (Instr.loadAt t x).run P w = .ok v w := by
  unfold stillV at h
  split at h
  · rename_i b s
    split at h
    · rename_i hh ha
      have hh : hasT P t = true := by simpa [watchT, ha] using hh
      obtain ⟨d, i, hd, hi⟩ := hasT_spec hh
      simp only [Instr.loadAt, Instr.sureAddr, loadVar, Sem.run_bind, Sem.run_pure, Result.andThen_ok, run_isAgg' hd, ha]
      simp [load, Sem.run, h]
    · rename_i hh ha
      have hl : Nat.beq (leaves P 20 t).length (sizeT P t) = true := by simpa [watchT, ha] using hh
      split at h
      · rename_i vs
        split at h
        · rename_i hz
          have hz := Nat.eq_of_beq_eq_true hz
          obtain ⟨d, hd⟩ := aggT_spec ha
          have hi : ∃ i, P.info? t = some i ∧ i.size = vs.toList.length := by
            cases hi : P.info? t with
            | none =>
              have : P.underlying t = none := by simp [Program.underlying, hi]
              rw [this] at hd; cases hd
            | some i => exact ⟨i, rfl, by rw [Array.length_toList, hz, sizeT_eq hi]⟩
          obtain ⟨i, hi, his⟩ := hi
          simp only [Instr.loadAt, Instr.sureAddr, loadVar, Sem.run_bind, Sem.run_pure, Result.andThen_ok, run_isAgg' hd, ha, if_true, run_sizeOf' hi, his]
          rw [run_loadCells' b s vs.toList (stillC_spec h)]
          rfl
        · exact h.elim
      · exact h.elim
    · exact h.elim
  · exact h.elim
variable {e : Env} {a : Act} {w : World}
theorem free_spec {listed : Array Bool} {i : Nat} {o : Oper} (ho : ops[i]? = some o) (hfree : freeB ops listed i = true) :
    ∀ j oj, ops[j]? = some oj → j ≠ i → listed.getD j true = false → (∀ e ∈ oj.after, Region.binds .any e = true → e.on ≠ i) → o.apart ops oj = true := by
  intro j oj hj hji hun hno
  unfold freeB at hfree
  rw [ho] at hfree
  have h1 := List.all_eq_true.1 hfree j (List.mem_range.2 (Array.getElem?_eq_some_iff.1 hj).1)
  have hu : unl listed j = true := by simp only [unl, hun]
  rw [hu] at h1
  simp only [hj] at h1
  have hb : Nat.beq j i = false := by
    cases hb : Nat.beq j i with
    | false => rfl
    | true => exact absurd (Nat.eq_of_beq_eq_true hb) hji
  rw [hb, Bool.false_or, Bool.or_eq_true] at h1
  rcases h1 with h1 | h1
  · obtain ⟨e, he, h2⟩ := List.any_eq_true.1 h1
    rw [Bool.and_eq_true] at h2
    exact absurd (Nat.eq_of_beq_eq_true h2.2) (hno e (by simpa using he) h2.1)
  · exact h1
theorem still_want {o : Oper} {d : Nat} {t : TypeId} {xv v : Value} {w2 : World} (hr : Rep n a e) (hw : Region.wanted o (yielded ops a.tmps) = true) (hg : guardOk ops o d = true) :
    stillG P ops o t xv d (putE e (some d) v) w2 ↔ stillV P t xv v w2 := by
  have hd : putE e (some d) v d = v := by simp [putE, upd]
  unfold stillG
  rw [hd]
  unfold guardOk at hg
  split
  · exact Iff.rfl
  · rename_i g want hgu
    rw [hgu] at hg
    dsimp only at hg
    have hy : (yielded ops a.tmps g == some want) = true := by simpa [Region.wanted, hgu] using hw
    rw [rep_yielded hr] at hy
    cases ht : (ops[g]?).bind (·.dst) with
    | none => rw [ht] at hg; cases hg
    | some tt =>
      rw [ht] at hg hy
      dsimp only at hg hy ⊢
      have hne : tt ≠ d := by
        intro e
        subst e
        rw [Nat.beq_refl] at hg; cases hg
      have e1 : putE e (some d) v tt = e tt := by
        show upd e d v tt = e tt
        exact upd_other _ _ _ _ hne
      rw [e1]
      cases hv : e tt with
      | bool b =>
        rw [hv] at hy
        have hy : b = want := by simpa using hy
        subst hy
        cases b <;> exact Iff.rfl
      | _ => rw [hv] at hy; simp at hy
theorem still_skip {o : Oper} {d : Nat} {t : TypeId} {xv v : Value} {w2 : World} (hr : Rep n a e) (hw : Region.wanted o (yielded ops a.tmps) = false) (hg : guardOk ops o d = true) :
    stillG P ops o t xv d (putE e (some d) v) w2 := by
  unfold stillG
  unfold guardOk at hg
  split
  · rename_i hgu
    simp [Region.wanted, hgu] at hw
  · rename_i g want hgu
    rw [hgu] at hg
    dsimp only at hg
    have hy : (yielded ops a.tmps g == some want) = false := by simpa [Region.wanted, hgu] using hw
    rw [rep_yielded hr] at hy
    cases ht : (ops[g]?).bind (·.dst) with
    | none => rw [ht] at hg; cases hg
    | some tt =>
      rw [ht] at hg hy
      dsimp only at hg hy ⊢
      have hne : tt ≠ d := by
        intro e
        subst e
        rw [Nat.beq_refl] at hg; cases hg
      have e1 : putE e (some d) v tt = e tt := by
        show upd e d v tt = e tt
        exact upd_other _ _ _ _ hne
      rw [e1]
      cases hv : e tt with
      | bool b =>
        rw [hv] at hy
        have hy : b ≠ want := by simpa using hy
        cases b <;> cases want <;> first | trivial | exact absurd rfl hy
      | _ => trivial
theorem planW_sound (hQ : Calm Q) (hsel : NoSel ops) (hdst : ∀ (i : Nat) (o : Oper), ops[i]? = some o → ∀ d, o.dst = some d → d < n) {K : Env → World → Prop}
    (hq : ∀ a w, liftK n K a w → Q .normal a w) : ∀ (fuel : Nat) (listed : Array Bool) (e : Env) (a : Act) (w : World) (J : World → Prop), J w → Rep n a e →
      planW P ops fuel listed e w J K → wpAnyJ P ops Q J fuel listed a w := by
  intro fuel
  induction fuel with
  | zero =>
    intro listed e a w J hJ hr h
    unfold planW at h
    split at h
    · rename_i hre
      exact ⟨hre, hq _ _ ⟨e, hr, h⟩⟩
    · exact h.elim
  | succ fuel ih =>
    intro listed e a w J hJ hr h
    unfold planW at h
    simp only [normA_eq] at h
    split at h
    · rename_i hre
      exact ⟨fun _ => hq _ _ ⟨e, hr, h⟩, fun i hi => by rw [hre] at hi; cases hi⟩
    · rename_i r rs hre
      replace h := settle_out h
      split at h
      · rename_i i hf
        have hmem := List.mem_of_find?_eq_some hf
        have hprop := List.find?_some hf
        rw [Bool.and_eq_true] at hprop
        obtain ⟨hpure, hfree⟩ := hprop
        rw [← hre] at hmem
        unfold stepV at h
        split at h
        · rename_i o ho
          have hp : pureB P o e = true ∨ skipB ops e o = true := by simpa [pureAt, ho] using hpure
          have hfree' := free_spec ho hfree
          rcases goV_cases hr h with ⟨hw, e', hr', he, h2⟩ | ⟨hw, e', hr', h⟩
          · have : e' = e := funext he
            subst this
            have hp : pureB P o e' = true := by
              rcases hp with hp | hp
              · exact hp
              · rw [skip_wanted hr hp] at hw; cases hw
            obtain ⟨v, hv, hk⟩ := opV_pure hp h2
            refine wpAnyJ_first hQ hsel ho fuel listed a w hJ hfree' hmem (v := v) (.inl ⟨hw, ?_, ?_⟩) (ih _ _ _ _ J hJ (hr'.put o.dst v (hdst i o ho)) hk)
            · intro w2 _; rw [hr'.evals]; exact hv w2
            · rw [hr'.evals]; exact PureAt.soft hv
          · exact wpAnyJ_first hQ hsel ho fuel listed a w hJ hfree' hmem (v := undef) (.inr ⟨hw, rfl⟩) (ih _ _ _ _ J hJ (hr'.put o.dst undef (hdst i o ho)) h)
        · exact h.elim
      · split at h
        · exact h.elim
        · rename_i hwell
          have hwell' : ∀ i ∈ Region.ready .any ops listed, wellB P ops e i = true := by
            intro i hi
            rw [hre] at hi
            exact List.all_eq_true.1 hwell i hi
          split at h
          · rename_i i hf
            have hmem := List.mem_of_find?_eq_some hf
            have hwt : watchB ops listed i = true := List.find?_some hf
            rw [← hre] at hmem
            split at h
            · rename_i o ho
              split at h
              · rename_i d t x hd hop
                split at h
                · rename_i hwT hgd
                  unfold stepV at h
                  rw [ho] at h
                  unfold watchB at hwt
                  rw [ho] at hwt
                  have hil : isLoad o = true := by unfold isLoad; rw [hop]
                  have hwt : freeB ops listed i = true := by simpa [hil] using hwt
                  have hfree' := free_spec ho hwt
                  rcases goV_cases hr h with ⟨hw, e', hr', he, h2⟩ | ⟨hw, e', hr', h2⟩
                  · have : e' = e := funext he
                    subst this
                    have hput : ∀ v, putE e' o.dst v = putE e' (some d) v := fun v => by rw [hd]
                    simp only [hput] at h2
                    have h3 : ∃ v, stillV P t (ev e' x) v w ∧ planW P ops fuel (listed.setIfInBounds i true) (putE e' (some d) v) w (fun w2 => stillG P ops o t (ev e' x) d (putE e' (some d) v) w2 ∧ J w2) K := by
                      unfold opV at h2
                      rw [hop] at h2
                      dsimp only at h2
                      cases ha : aggT P t with
                      | false =>
                        have hh : hasT P t = true := by simpa [watchT, ha] using hwT
                        simp only [ha, hh] at h2
                        split at h2
                        · rename_i b s hx
                          obtain ⟨v, hv, hk⟩ := Shape.ex_some h2
                          refine ⟨v, ?_, hk⟩
                          unfold stillV
                          rw [hx]
                          simp only [hwT, ha]
                          exact hv
                        · exact h2.elim
                      | true =>
                        have hl : Nat.beq (leaves P 20 t).length (sizeT P t) = true := by simpa [watchT, ha] using hwT
                        simp only [ha, hl] at h2
                        split at h2
                        · rename_i b s hx
                          obtain ⟨vs, h5, h6, hk⟩ := exCells_spec h2
                          refine ⟨.agg vs.toArray, ?_, hk⟩
                          unfold stillV
                          rw [hx]
                          have hz : Nat.beq vs.toArray.size (sizeT P t) = true := by
                            rw [List.size_toArray, h5]; exact hl
                          simp only [hwT, ha, hz]
                          exact stillC_of (by rw [h5]; exact h6)
                        · exact h2.elim
                    obtain ⟨v, hv, hk⟩ := h3
                    have hst := fun w2 => still_want (P := P) (xv := ev e' x) (t := t) (v := v) (w2 := w2) hr' hw hgd
                    have hJ' : (fun w2 => stillG P ops o t (ev e' x) d (putE e' (some d) v) w2 ∧ J w2) w := ⟨(hst w).2 hv, hJ⟩
                    refine wpAnyJ_mono (J := fun w2 => stillG P ops o t (ev e' x) d (putE e' (some d) v) w2 ∧ J w2) (fun w h => h.2) _ _ _ _ ?_
                    refine wpAnyJ_first hQ hsel ho fuel listed a w hJ' hfree' hmem (v := v) (.inl ⟨hw, ?_, soft_load hil⟩) (ih _ _ _ _ _ hJ' ?_ hk)
                    · intro w2 hw2
                      rw [hr'.evals]
                      unfold execOp
                      rw [hop]
                      simp only [Sem.run_bind, still_run ((hst w2).1 hw2.1), Result.andThen_ok, Sem.run_pure]
                    · rw [← hput]; exact hr'.put o.dst v (hdst i _ ho)
                  · have hput : putE e' o.dst undef = putE e' (some d) undef := by rw [hd]
                    simp only [hput] at h2
                    have hst := fun w2 => still_skip (P := P) (xv := ev e x) (t := t) (v := undef) (w2 := w2) hr' hw hgd
                    have hJ' : (fun w2 => stillG P ops o t (ev e x) d (putE e' (some d) undef) w2 ∧ J w2) w := ⟨hst w, hJ⟩
                    refine wpAnyJ_mono (J := fun w2 => stillG P ops o t (ev e x) d (putE e' (some d) undef) w2 ∧ J w2) (fun w h => h.2) _ _ _ _ ?_
                    refine wpAnyJ_first hQ hsel ho fuel listed a w hJ' hfree' hmem (v := undef) (.inr ⟨hw, rfl⟩) (ih _ _ _ _ _ hJ' ?_ h2)
                    rw [← hput]; exact hr'.put o.dst undef (hdst i _ ho)
                · exact h.elim
              · exact h.elim
            · exact h.elim
          · have each : ∀ i ∈ Region.ready .any ops listed, stepV P ops e w i (fun e' w' => J w' ∧ planW P ops fuel (listed.setIfInBounds i true) e' w' J K) →
                wpOpC P ops Q i (fun a' w' => J w' ∧ wpAnyJ P ops Q J fuel (listed.setIfInBounds i true) a' w') a w := by
              intro i hi hst
              unfold stepV at hst
              split at hst
              · rename_i o ho
                refine wpOpC_mono ?_ (goV_wpOpC ho (hdst i o ho) hr (hwell' i hi) hst)
                rintro a' w' ⟨e', hr', hj, hp⟩
                exact ⟨hj, ih _ e' a' w' J hj hr' hp⟩
              · exact hst.elim
            refine ⟨fun h0 => (by rw [hre] at h0; cases h0), fun i hi => ?_⟩
            split at h
            · have : i = r := by rw [hre] at hi; simpa using hi
              subst this
              exact each i hi h
            · rw [hre] at hi
              have pick : ∀ (l : List Nat) (F : Nat → Prop), allOf l F → i ∈ l → F i := by
                intro l
                induction l with
                | nil => intro F _ hi; cases hi
                | cons x l ih =>
                  intro F hF hi
                  rcases List.mem_cons.1 hi with rfl | hi
                  · exact hF.1
                  · exact ih F hF.2 hi
              exact each i (by rw [hre]; exact hi) (pick _ _ h hi)
theorem regionW_sound (hmix : P.follows .mixedOrders = true) (hQ : Calm Q) (hdst : ∀ (o : Oper), o ∈ ops.toList → ∀ d, o.dst = some d → d < n) {K : Env → World → Prop} (hq : ∀ a w, liftK n K a w → Q .normal a w)
    {id : Nat} {draw : Bool} (hr : Rep n a e) (h : regionW P ops draw e w K) : (Code.region id ops draw).wp P Q a w := by
  unfold regionW at h
  split at h
  · rename_i hsel
    have hsel' : NoSel ops := by
      intro j o cs b hj ho
      have hmem : o ∈ ops.toList := by
        have := Array.mem_of_getElem? hj
        simpa using this
      have : ops.toList.any isSelect = true := List.any_eq_true.2 ⟨o, hmem, by simp [isSelect, ho]⟩
      rw [hsel] at this
      cases this
    refine wp_region_any hmix (wpAny_of_C _ _ _ _ (wpAnyC_of_J (J := fun _ => True) _ _ _ _ ?_))
    exact planW_sound hQ hsel' (fun i o ho d hd => hdst o (by have := Array.mem_of_getElem? ho; simpa using this) d hd) hq ops.size _ e a w.drew (fun _ => True) trivial hr h
  · exact h.elim
end
end Go.Proofs.YtjmlfknogjaemaaDoor.Vc
