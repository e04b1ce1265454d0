/- A region with meeting points: all orders up to one of them, then all from there. -/
import Derived.Test.YtjmlfknogjaemaaDoorM4
set_option linter.unusedSimpArgs false
set_option linter.unusedVariables false
namespace Go.Proofs.YtjmlfknogjaemaaDoor.Vc
open Go

theorem eqL_spec : ∀ {a b : List Bool}, eqL a b = true → a = b
  | [], [], _ => rfl
  | true :: a, true :: b, h => by rw [eqL_spec (a := a) (b := b) h]
  | false :: a, false :: b, h => by rw [eqL_spec (a := a) (b := b) h]
  | [], _ :: _, h => by cases h
  | _ :: _, [], h => by simp [eqL] at h
  | true :: _, false :: _, h => by cases h
  | false :: _, true :: _, h => by cases h
theorem eqL_ne : ∀ {a b : List Bool}, eqL a b = false → a ≠ b
  | [], _, h => by intro e; subst e; cases h
  | true :: a, _, h => by intro e; subst e; exact eqL_ne (a := a) (b := a) h rfl
  | false :: a, _, h => by intro e; subst e; exact eqL_ne (a := a) (b := a) h rfl

theorem subL_spec : ∀ {a b : List Bool}, subL a b = true → ∀ k, a.getD k false = true → b.getD k false = true
  | [], [], _, k, h => by simp at h
  | [], _ :: _, h, _, _ => by cases h
  | false :: _, [], h, _, _ => by simp [subL] at h
  | true :: _, [], h, _, _ => by simp [subL] at h
  | true :: _, false :: _, h, _, _ => by cases h
  | false :: a, y :: b, h, k, hk => by
    cases k with
    | zero => simp at hk
    | succ k => simpa using subL_spec (a := a) (b := b) h k (by simpa using hk)
  | true :: a, true :: b, h, k, hk => by
    cases k with
    | zero => simp
    | succ k => simpa using subL_spec (a := a) (b := b) h k (by simpa using hk)

section
variable {P : Program} {ops : Array Oper} {Q : Exit → Act → World → Prop} {n : Nat}
theorem wpAnyC_more : ∀ {fuel : Nat} {listed : Array Bool} {a : Act} {w : World}, wpAnyC P ops Q fuel listed a w → wpAnyC P ops Q (fuel + 1) listed a w
  | 0, _, _, _, h => ⟨fun _ => h.2, fun i hi => by rw [h.1] at hi; cases hi⟩
  | fuel + 1, _, _, _, h => ⟨h.1, fun i hi => wpOpC_mono (fun _ _ h' => wpAnyC_more h') (h.2 i hi)⟩
theorem wpAnyC_le {f f' : Nat} (hf : f ≤ f') {listed : Array Bool} {a : Act} {w : World} (h : wpAnyC P ops Q f listed a w) : wpAnyC P ops Q f' listed a w := by
  induction hf with
  | refl => exact h
  | step _ ih => exact wpAnyC_more ih
def wpAnyT (P : Program) (ops : Array Oper) (Q : Exit → Act → World → Prop) (S : List Bool) (G : Nat → Act → World → Prop) (J : World → Prop) : Nat → Array Bool → Act → World → Prop
  | 0, listed, a, w => listed.toList = S ∧ G 0 a w
  | fuel + 1, listed, a, w => (listed.toList = S ∧ G (fuel + 1) a w) ∨
    (listed.toList ≠ S ∧ Region.ready .any ops listed ≠ [] ∧ ∀ i ∈ Region.ready .any ops listed, wpOpC P ops Q i (fun a' w' => J w' ∧ wpAnyT P ops Q S G J fuel (listed.setIfInBounds i true) a' w') a w)
theorem wpAnyT_mono {S : List Bool} {G : Nat → Act → World → Prop} {J J' : World → Prop} (hJ : ∀ w, J w → J' w) : ∀ (fuel : Nat) (listed : Array Bool) (a : Act) (w : World), wpAnyT P ops Q S G J fuel listed a w → wpAnyT P ops Q S G J' fuel listed a w
  | 0, _, _, _, h => h
  | fuel + 1, _, _, _, h => h.imp id fun ⟨h1, h2, h3⟩ => ⟨h1, h2, fun i hi => wpOpC_mono (fun a' w' h' => ⟨hJ _ h'.1, wpAnyT_mono hJ fuel _ a' w' h'.2⟩) (h3 i hi)⟩
theorem wpAnyC_of_T {S : List Bool} {G : Nat → Act → World → Prop} {J : World → Prop} (hG : ∀ fuel a w, G fuel a w → wpAnyC P ops Q fuel S.toArray a w) : ∀ (fuel : Nat) (listed : Array Bool) (a : Act) (w : World), wpAnyT P ops Q S G J fuel listed a w → wpAnyC P ops Q fuel listed a w
  | 0, listed, a, w, h => by
    have : listed = S.toArray := by rw [← h.1]
    rw [this]
    exact hG _ _ _ h.2
  | fuel + 1, listed, a, w, .inl h => by
    have : listed = S.toArray := by rw [← h.1]
    rw [this]
    exact hG _ _ _ h.2
  | fuel + 1, _, _, _, .inr ⟨_, h1, h2⟩ => ⟨fun h => absurd h h1, fun i hi => wpOpC_mono (fun a' w' h' => wpAnyC_of_T hG fuel _ a' w' h'.2) (h2 i hi)⟩

structure Inv (ops : Array Oper) (S : List Bool) (listed : Array Bool) : Prop where
  closed : Closed ops listed
  size : listed.size = ops.size
  sub : ∀ k, listed.getD k false = true → S.getD k false = true
theorem bar_spec {ms : List Nat} {S : List Bool} (h : barB ops ms S = true) : S.length = ops.size ∧ ∀ j i, j < ops.size → S.getD j true = false → i < ops.size → S.getD i false = true → (ms.getD j 0).testBit i = true := by
  unfold barB at h
  rw [Bool.and_eq_true] at h
  refine ⟨Nat.eq_of_beq_eq_true h.1, fun j i hj hSj hi hSi => ?_⟩
  have h1 := List.all_eq_true.1 h.2 j (List.mem_range.2 hj)
  rw [hSj] at h1
  have h2 := List.all_eq_true.1 h1 i (List.mem_range.2 hi)
  rw [hSi] at h2
  exact h2
/-- What is ready ahead of the meeting point is of it. -/
theorem bar_ready {ms : List Nat} (hm : maskOk ops ms = true) {S : List Bool} (hb : barB ops ms S = true) {listed : Array Bool} (hI : Inv ops S listed) {i j : Nat} (hj : j ∈ Region.ready .any ops listed) (hi : i < ops.size)
    (hu : listed.getD i true = false) (hS : S.getD i false = true) : S.getD j false = true := by
  obtain ⟨hlen, hbar⟩ := bar_spec hb
  obtain ⟨_, oj, hoj, _⟩ := mem_ready.1 hj
  have hjl : j < ops.size := (Array.getElem?_eq_some_iff.1 hoj).1
  cases hSj : S.getD j true with
  | true => rw [List.getD_eq_getElem?_getD, List.getElem?_eq_getElem (by omega)] at hSj ⊢; exact hSj
  | false =>
    have := ready_mask hm hI.closed hI.size hj hi (hbar j i hjl hSj hi hS)
    rw [hu] at this
    cases this
theorem some_out {ms : List Nat} {S : List Bool} (hb : barB ops ms S = true) {listed : Array Bool} (hI : Inv ops S listed) (hne : listed.toList ≠ S) : ∃ i, i < ops.size ∧ listed.getD i true = false ∧ S.getD i false = true := by
  obtain ⟨hlen, _⟩ := bar_spec hb
  refine Classical.byContradiction fun hno => hne ?_
  refine List.ext_getElem (by simp [hlen, hI.size]) fun i h1 h2 => ?_
  have hi : i < ops.size := by rw [← hlen]; exact h2
  have hil : i < listed.size := by rw [hI.size]; exact hi
  cases hl : listed[i]'hil with
  | true =>
    have := hI.sub i (by simp [Array.getD_eq_getD_getElem?, hil, hl])
    rw [List.getD_eq_getElem?_getD, List.getElem?_eq_getElem h2] at this
    simp only [Option.getD_some] at this
    simp [hl, this]
  | false =>
    cases hs : S[i]'h2 with
    | false => simp [hl]
    | true =>
      exfalso
      refine hno ⟨i, hi, by simp [Array.getD_eq_getD_getElem?, hil, hl], ?_⟩
      rw [List.getD_eq_getElem?_getD, List.getElem?_eq_getElem h2]
      simp [hs]
theorem Inv.mine {ms : List Nat} (hm : maskOk ops ms = true) {S : List Bool} (hb : barB ops ms S = true) {listed : Array Bool} (hI : Inv ops S listed) (hne : listed.toList ≠ S) {j : Nat} (hj : j ∈ Region.ready .any ops listed) : S.getD j false = true := by
  obtain ⟨i, h1, h2, h3⟩ := some_out hb hI hne
  exact bar_ready hm hb hI hj h1 h2 h3
theorem Inv.add {S : List Bool} {listed : Array Bool} (hI : Inv ops S listed) {i : Nat} (hi : i ∈ Region.ready .any ops listed) (hS : S.getD i false = true) : Inv ops S (listed.setIfInBounds i true) := by
  refine ⟨hI.closed.add hi, by simpa using hI.size, fun k hk => ?_⟩
  by_cases h : i = k
  · subst h; exact hS
  · rw [getD_set_ne false h] at hk; exact hI.sub k hk

/-- Taking first what yields the same wherever J holds. -/
theorem wpAnyT_first (hQ : Calm Q) (hsel : NoSel ops) {ms : List Nat} (hm : maskOk ops ms = true) {S : List Bool} (hb : barB ops ms S = true) {G : Nat → Act → World → Prop} {J : World → Prop} {i : Nat} {oi : Oper} {v : Value} (hi : ops[i]? = some oi) :
    ∀ (fuel : Nat) (listed : Array Bool) (a : Act) (w : World), J w → Inv ops S listed → listed.toList ≠ S →
      (∀ j oj, ops[j]? = some oj → j ≠ i → listed.getD j true = false → (∀ e ∈ oj.after, Region.binds .any e = true → e.on ≠ i) → oi.apart ops oj = true) →
      i ∈ Region.ready .any ops listed → YieldsJ P ops J oi v a →
      wpAnyT P ops Q S G J fuel (listed.setIfInBounds i true) (a.put oi.dst v) w → wpAnyT P ops Q S G J (fuel + 1) listed a w := by
  have hil : i < ops.size := (Array.getElem?_eq_some_iff.1 hi).1
  have first : ∀ (fuel : Nat) (listed : Array Bool), Inv ops S listed → listed.toList ≠ S → i ∈ Region.ready .any ops listed → ∀ j ∈ Region.ready .any ops listed, j ≠ i → (listed.setIfInBounds i true).toList ≠ S := by
    intro fuel listed hI hne hr j hj hji he
    have hSj := hI.mine hm hb hne hj
    have h1 : (listed.setIfInBounds i true).getD j false = true := by
      have : (listed.setIfInBounds i true) = S.toArray := by rw [← he]
      rw [this]
      simpa [Array.getD_eq_getD_getElem?, List.getD_eq_getElem?_getD] using hSj
    rw [getD_set_ne false (Ne.symm hji)] at h1
    have h0 := (mem_ready.1 hj).1
    rcases Nat.lt_or_ge j listed.size with h' | h'
    · rw [getD_bool h' true false] at h0; rw [h0] at h1; cases h1
    · simp [Array.getElem?_eq_none h'] at h1
  intro fuel
  induction fuel with
  | zero =>
    intro listed a w hJ hI hne hfree hr hy H
    refine .inr ⟨hne, fun h => (by rw [h] at hr; cases hr), fun j hj => ?_⟩
    by_cases hji : j = i
    · subst hji; exact hy.wpOpC hi hJ ⟨hJ, H⟩
    · exact absurd H.1 (first 0 listed hI hne hr j hj hji)
  | succ fuel ih =>
    intro listed a w hJ hI hne hfree hr hy H
    refine .inr ⟨hne, fun h => (by rw [h] at hr; cases hr), fun j hj => ?_⟩
    by_cases hji : j = i
    · subst hji; exact hy.wpOpC hi hJ ⟨hJ, H⟩
    · rcases H with H | H
      · exact absurd H.1 (first 0 listed hI hne hr j hj hji)
      have h1 := H.2.2 j (ready_mono hj hji)
      obtain ⟨hjun, oj, hoj, hall⟩ := mem_ready.1 hj
      have hnot : ∀ e ∈ oj.after, Region.binds .any e = true → e.on ≠ i := fun e he hb heq => by
        have h1 := hall e he hb
        have h0 := (mem_ready.1 hr).1
        rw [heq] at h1
        rcases Nat.lt_or_ge i listed.size with h' | h'
        · simp [h'] at h0 h1; rw [h0] at h1; cases h1
        · simp [Array.getElem?_eq_none h'] at h1
      have hap := hfree j oj hoj hji hjun hnot
      have h2 := wpOp_putJ (P := P) (Q := Q) hoj hap (fun cs b => hsel i oi cs b hi) (fun cs b => hsel j oj cs b hoj) (fun c a w hh => absurd hh (hQ.panic _ _ _)) hy h1.2
      have hfree' : ∀ k ok, ops[k]? = some ok → k ≠ i → (listed.setIfInBounds j true).getD k true = false →
          (∀ e ∈ ok.after, Region.binds .any e = true → e.on ≠ i) → oi.apart ops ok = true := fun k ok hk hki hun hno => by
        refine hfree k ok hk hki ?_ hno
        by_cases hjk : j = k
        · subst hjk; exact hjun
        · rw [getD_set_ne true hjk] at hun; exact hun
      have hSj := hI.mine hm hb hne hj
      have hSi := hI.mine hm hb hne hr
      have hne' : (listed.setIfInBounds j true).toList ≠ S := by
        intro he
        have h1 : (listed.setIfInBounds j true).getD i false = true := by
          have : (listed.setIfInBounds j true) = S.toArray := by rw [← he]
          rw [this]
          simpa [Array.getD_eq_getD_getElem?, List.getD_eq_getElem?_getD] using hSi
        rw [getD_set_ne false hji] at h1
        have h0 := (mem_ready.1 hr).1
        rcases Nat.lt_or_ge i listed.size with h' | h'
        · rw [getD_bool h' true false] at h0; rw [h0] at h1; cases h1
        · simp [Array.getElem?_eq_none h'] at h1
      refine ⟨softNow_put hoj (fun cs b => hsel j oj cs b hoj) (Oper.apart_spec hap).1 h1.1, wpOp_mono (fun a' w' h3 => ⟨h3.2.1, ih (listed.setIfInBounds j true) a' w' h3.2.1 (hI.add hj hSj) hne' hfree' (ready_mono hr (Ne.symm hji)) h3.1 ?_⟩) h2⟩
      rw [Array.setIfInBounds_comm _ _ hji]
      exact h3.2.2
variable {e : Env} {a : Act} {w : World}
theorem planT_sound (hQ : Calm Q) (hsel : NoSel ops) {ms : List Nat} (hm : maskOk ops ms = true) {S : List Bool} {f2 : Nat} (hb : barB ops ms S = true) (hdst : ∀ (i : Nat) (o : Oper), ops[i]? = some o → ∀ d, o.dst = some d → d < n) {K : Env → World → Prop}
    {G : Nat → Act → World → Prop} (hq : ∀ f a w, f2 ≤ f → Closed ops S.toArray → liftK n K a w → G f a w) : ∀ (fuel : Nat) (listed : Array Bool) (e : Env) (a : Act) (w : World) (J : World → Prop), J w → Inv ops S listed → Rep n a e →
      planT P ops S f2 fuel listed e w J K → wpAnyT P ops Q S G J fuel listed a w := by
  intro fuel
  induction fuel with
  | zero =>
    intro listed e a w J hJ hI hr h
    unfold planT at h
    split at h
    · rename_i h1
      exact ⟨eqL_spec h1, hq _ _ _ (Nat.zero_le _) (by rw [← eqL_spec h1]; exact hI.closed) ⟨e, hr, h⟩⟩
    · exact h.elim
  | succ fuel ih =>
    intro listed e a w J hJ hI hr h
    unfold planT at h
    simp only [normA_eq] at h
    split at h
    · rename_i h1
      split at h
      · rename_i h2
        exact .inl ⟨eqL_spec h1, hq _ _ _ (Nat.le_of_ble_eq_true h2) (by rw [← eqL_spec h1]; exact hI.closed) ⟨e, hr, h⟩⟩
      · exact h.elim
    rename_i hne
    replace hne := eqL_ne hne
    split at h
    · exact h.elim
    · rename_i r rs hre
      replace h := settle_out h
      split at h
      · rename_i i hf
        have hmem := List.mem_of_find?_eq_some hf
        have hprop := List.find?_some hf
        rw [Bool.and_eq_true] at hprop
        obtain ⟨hpure, hfree⟩ := hprop
        rw [← hre] at hmem
        unfold stepV at h
        split at h
        · rename_i o ho
          have hp : pureB P o e = true ∨ skipB ops e o = true := by simpa [pureAt, ho] using hpure
          have hfree' := free_spec ho hfree
          rcases goV_cases hr h with ⟨hw, e', hr', he, h2⟩ | ⟨hw, e', hr', h⟩
          · have : e' = e := funext he
            subst this
            have hp : pureB P o e' = true := by
              rcases hp with hp | hp
              · exact hp
              · rw [skip_wanted hr hp] at hw; cases hw
            obtain ⟨v, hv, hk⟩ := opV_pure hp h2
            refine wpAnyT_first hQ hsel hm hb ho fuel listed a w hJ hI hne hfree' hmem (v := v) (.inl ⟨hw, ?_, ?_⟩) (ih _ _ _ _ J hJ (hI.add hmem (hI.mine hm hb hne hmem)) (hr'.put o.dst v (hdst i o ho)) hk)
            · intro w2 _; rw [hr'.evals]; exact hv w2
            · rw [hr'.evals]; exact PureAt.soft hv
          · exact wpAnyT_first hQ hsel hm hb ho fuel listed a w hJ hI hne hfree' hmem (v := undef) (.inr ⟨hw, rfl⟩) (ih _ _ _ _ J hJ (hI.add hmem (hI.mine hm hb hne hmem)) (hr'.put o.dst undef (hdst i o ho)) h)
        · exact h.elim
      · split at h
        · exact h.elim
        · rename_i hwell
          have hwell' : ∀ i ∈ Region.ready .any ops listed, wellB P ops e i = true := by
            intro i hi
            rw [hre] at hi
            exact List.all_eq_true.1 hwell i hi
          split at h
          · rename_i i hf
            have hmem := List.mem_of_find?_eq_some hf
            have hwt : watchB ops listed i = true := List.find?_some hf
            rw [← hre] at hmem
            split at h
            · rename_i o ho
              split at h
              · rename_i d t x hd hop
                split at h
                · rename_i hwT hgd
                  unfold stepV at h
                  rw [ho] at h
                  unfold watchB at hwt
                  rw [ho] at hwt
                  have hil : isLoad o = true := by unfold isLoad; rw [hop]
                  have hwt : freeB ops listed i = true := by simpa [hil] using hwt
                  have hfree' := free_spec ho hwt
                  rcases goV_cases hr h with ⟨hw, e', hr', he, h2⟩ | ⟨hw, e', hr', h2⟩
                  · have : e' = e := funext he
                    subst this
                    have hput : ∀ v, putE e' o.dst v = putE e' (some d) v := fun v => by rw [hd]
                    simp only [hput] at h2
                    have h3 : ∃ v, stillV P t (ev e' x) v w ∧ planT P ops S f2 fuel (listed.setIfInBounds i true) (putE e' (some d) v) w (fun w2 => stillG P ops o t (ev e' x) d (putE e' (some d) v) w2 ∧ J w2) K := by
                      unfold opV at h2
                      rw [hop] at h2
                      dsimp only at h2
                      cases ha : aggT P t with
                      | false =>
                        have hh : hasT P t = true := by simpa [watchT, ha] using hwT
                        simp only [ha, hh] at h2
                        split at h2
                        · rename_i b s hx
                          obtain ⟨v, hv, hk⟩ := Shape.ex_some h2
                          refine ⟨v, ?_, hk⟩
                          unfold stillV
                          rw [hx]
                          simp only [hwT, ha]
                          exact hv
                        · exact h2.elim
                      | true =>
                        have hl : Nat.beq (leaves P 20 t).length (sizeT P t) = true := by simpa [watchT, ha] using hwT
                        simp only [ha, hl] at h2
                        split at h2
                        · rename_i b s hx
                          obtain ⟨vs, h5, h6, hk⟩ := exCells_spec h2
                          refine ⟨.agg vs.toArray, ?_, hk⟩
                          unfold stillV
                          rw [hx]
                          have hz : Nat.beq vs.toArray.size (sizeT P t) = true := by
                            rw [List.size_toArray, h5]; exact hl
                          simp only [hwT, ha, hz]
                          exact stillC_of (by rw [h5]; exact h6)
                        · exact h2.elim
                    obtain ⟨v, hv, hk⟩ := h3
                    have hst := fun w2 => still_want (P := P) (xv := ev e' x) (t := t) (v := v) (w2 := w2) hr' hw hgd
                    have hJ' : (fun w2 => stillG P ops o t (ev e' x) d (putE e' (some d) v) w2 ∧ J w2) w := ⟨(hst w).2 hv, hJ⟩
                    refine wpAnyT_mono (J := fun w2 => stillG P ops o t (ev e' x) d (putE e' (some d) v) w2 ∧ J w2) (fun w h => h.2) _ _ _ _ ?_
                    refine wpAnyT_first hQ hsel hm hb ho fuel listed a w hJ' hI hne hfree' hmem (v := v) (.inl ⟨hw, ?_, soft_load hil⟩) (ih _ _ _ _ _ hJ' (hI.add hmem (hI.mine hm hb hne hmem)) ?_ hk)
                    · intro w2 hw2
                      rw [hr'.evals]
                      unfold execOp
                      rw [hop]
                      simp only [Sem.run_bind, still_run ((hst w2).1 hw2.1), Result.andThen_ok, Sem.run_pure]
                    · rw [← hput]; exact hr'.put o.dst v (hdst i _ ho)
                  · have hput : putE e' o.dst undef = putE e' (some d) undef := by rw [hd]
                    simp only [hput] at h2
                    have hst := fun w2 => still_skip (P := P) (xv := ev e x) (t := t) (v := undef) (w2 := w2) hr' hw hgd
                    have hJ' : (fun w2 => stillG P ops o t (ev e x) d (putE e' (some d) undef) w2 ∧ J w2) w := ⟨hst w, hJ⟩
                    refine wpAnyT_mono (J := fun w2 => stillG P ops o t (ev e x) d (putE e' (some d) undef) w2 ∧ J w2) (fun w h => h.2) _ _ _ _ ?_
                    refine wpAnyT_first hQ hsel hm hb ho fuel listed a w hJ' hI hne hfree' hmem (v := undef) (.inr ⟨hw, rfl⟩) (ih _ _ _ _ _ hJ' (hI.add hmem (hI.mine hm hb hne hmem)) ?_ h2)
                    rw [← hput]; exact hr'.put o.dst undef (hdst i _ ho)
                · exact h.elim
              · exact h.elim
            · exact h.elim
          · have each : ∀ i ∈ Region.ready .any ops listed, stepV P ops e w i (fun e' w' => J w' ∧ planT P ops S f2 fuel (listed.setIfInBounds i true) e' w' J K) →
                wpOpC P ops Q i (fun a' w' => J w' ∧ wpAnyT P ops Q S G J fuel (listed.setIfInBounds i true) a' w') a w := by
              intro i hi hst
              unfold stepV at hst
              split at hst
              · rename_i o ho
                refine wpOpC_mono ?_ (goV_wpOpC ho (hdst i o ho) hr (hwell' i hi) hst)
                rintro a' w' ⟨e', hr', hj, hp⟩
                exact ⟨hj, ih _ e' a' w' J hj (hI.add hi (hI.mine hm hb hne hi)) hr' hp⟩
              · exact hst.elim
            refine .inr ⟨hne, fun h0 => (by rw [hre] at h0; cases h0), fun i hi => ?_⟩
            split at h
            · have : i = r := by rw [hre] at hi; simpa using hi
              subst this
              exact each i hi h
            · rw [hre] at hi
              have pick : ∀ (l : List Nat) (F : Nat → Prop), allOf l F → i ∈ l → F i := by
                intro l
                induction l with
                | nil => intro F _ hi; cases hi
                | cons x l ih =>
                  intro F hF hi
                  rcases List.mem_cons.1 hi with rfl | hi
                  · exact hF.1
                  · exact ih F hF.2 hi
              exact each i (by rw [hre]; exact hi) (pick _ _ h hi)
theorem atV_spec {α : Type} {s : Shape} {f : s.Fn α} {F : Value → α → Prop} {G : α → Prop} {v : Value} (hall : s.allV f F) (hat : s.atV f v G) : ∃ x, F v x ∧ G x := by
  cases s <;> cases v <;> simp only [Shape.atV] at hat <;> simp only [Shape.allV] at hall
  case int.int k k' x =>
    split at hat
    · rename_i hk
      have : k = k' := by simpa using hk
      subst this
      exact ⟨_, hall x, hat⟩
    · exact hat.elim
  case flt.float k k' x =>
    split at hat
    · rename_i hk
      have : k = k' := by simpa using hk
      subst this
      exact ⟨_, hall x, hat⟩
    · exact hat.elim
  case slice.slice A m c => exact ⟨_, hall A m c, hat⟩
  case blk.pointer p =>
    split at hat
    · exact ⟨_, hall _ _, hat⟩
    · exact hat.elim
  case fn.func g fi ca =>
    split at hat
    · exact ⟨_, hall _ _ _, hat⟩
    · exact hat.elim
  all_goals exact ⟨_, hall _, hat⟩
theorem appV_spec {α : Type} : ∀ {l : List (Nat × Shape)} {I : FnV l α} {e0 e : Env} {F : Env → α → Prop} {G : α → Prop}, allV l I e0 F → appV l I e G →
    ∃ e1 x, F e1 x ∧ G x ∧ ∀ t, e1 t = if t ∈ l.map (·.1) then e t else e0 t := by
  intro l
  induction l with
  | nil =>
    intro I e0 e F G hall hat
    exact ⟨e0, I, hall, hat, fun t => by simp⟩
  | cons p l ih =>
    obtain ⟨t0, s⟩ := p
    intro I e0 e F G hall hat
    obtain ⟨I', h1, h2⟩ := atV_spec (F := fun v I' => allV l I' (upd e0 t0 v) F) (G := fun I' => appV l I' e G) hall hat
    obtain ⟨e1, x, h3, h4, h5⟩ := ih h1 h2
    refine ⟨e1, x, h3, h4, fun t => ?_⟩
    rw [h5 t]
    by_cases ht : t ∈ l.map (·.1)
    · rw [if_pos ht, if_pos (by simp only [List.map_cons, List.mem_cons]; exact .inr ht)]
    · rw [if_neg ht]
      by_cases h0 : t = t0
      · subst h0
        rw [upd_same, if_pos (by simp)]
      · rw [upd_other _ _ _ _ h0, if_neg (by simp only [List.map_cons, List.mem_cons]; rintro (h | h); exact h0 h; exact ht h)]
theorem memN_iff (l : List Nat) (t : Nat) : memN l t = true ↔ t ∈ l := by
  induction l with
  | nil => simp [memN]
  | cons x l ih =>
    unfold memN
    split
    · rename_i h
      have := Nat.eq_of_beq_eq_true h
      simp [this]
    · rename_i h
      have : t ≠ x := fun e => by subst e; simp at h
      rw [ih]
      simp [this]
theorem valsE_spec {l : List Nat} {e e' : Env} (h : valsE l e' = valsE l e) : ∀ t ∈ l, e' t = e t := by
  intro t ht
  have := List.map_inj_left.1 h t ht
  exact this
theorem keep_back {an : Ann} {e e0 e1 : Env} (hk : ∀ t ∈ an.keep, e0 t = e t) (h1 : ∀ t, e1 t = if t ∈ an.live.map (·.1) then e0 t else keepE e an.keep e0 t) : e1 = e0 := by
  funext t
  rw [h1 t]
  split
  · rfl
  · unfold keepE
    split
    · rename_i hm
      exact (hk t ((memN_iff _ _).1 hm)).symm
    · rfl


theorem start_inv : Closed ops (Array.replicate ops.size false) := by
  intro k o hk hl
  have hlt : k < ops.size := (Array.getElem?_eq_some_iff.1 hk).1
  simp [Array.getD_eq_getD_getElem?, hlt] at hl
/-- All that S is closed: what is in it comes behind none that is not. -/
theorem meets_sound (hQ : Calm Q) (hsel : NoSel ops) {ms : List Nat} (hm : maskOk ops ms = true) (hdst : ∀ (i : Nat) (o : Oper), ops[i]? = some o → ∀ d, o.dst = some d → d < n) {K : Env → World → Prop}
    (hq : ∀ a w, liftK n K a w → Q .normal a w) : ∀ (l : List (List Nat × Ann)) (listed : Array Bool) (fuel : Nat) (e : Env) (a : Act) (w : World), Closed ops listed → listed.size = ops.size → Rep n a e →
      meetsV P ops ms l listed fuel e w K → wpAnyC P ops Q fuel listed a w := by
  intro l
  induction l with
  | nil =>
    intro listed fuel e a w _ _ hr h
    exact wpAnyC_of_J (J := fun _ => True) _ _ _ _ (planW_sound hQ hsel hdst hq fuel listed e a w (fun _ => True) trivial hr h)
  | cons p l ih =>
    obtain ⟨s, an⟩ := p
    intro listed fuel e a w hc hz hr h
    unfold meetsV at h
    rw [normL_eq] at h
    generalize (List.range ops.size).map (memN s) = S at h
    split at h
    · rename_i hb hsub
      obtain ⟨M, h1, h2⟩ := h
      have hI : Inv ops S listed := ⟨hc, hz, fun k hk => subL_spec hsub k (by simpa [Array.getD_eq_getD_getElem?, List.getD_eq_getElem?_getD] using hk)⟩
      refine wpAnyC_of_T (S := S) (G := fun f a w => freeN S ≤ f ∧ Closed ops S.toArray ∧ liftK n (fun e' w' => valsE an.keep e' = valsE an.keep e ∧ appV an.live M e' (fun J => J w')) a w) (J := fun _ => True) ?_ fuel listed a w
        (planT_sound hQ hsel hm hb hdst (fun f a w h1 h2 h3 => ⟨h1, h2, h3⟩) fuel listed e a w (fun _ => True) trivial hI hr h1)
      rintro f a' w' ⟨hf, hcl, e', hr', g2, g3⟩
      obtain ⟨e1, J, g4, g5, g6⟩ := appV_spec (h2 e') g3
      have : e1 = e' := keep_back (valsE_spec g2) g6
      subst this
      exact wpAnyC_le hf (ih S.toArray (freeN S) e1 a' w' hcl (by simpa using (bar_spec hb).1) hr' (g4 w' g5))
    · exact h.elim
theorem regionM_sound (hmix : P.follows .mixedOrders = true) (hQ : Calm Q) (hdst : ∀ (o : Oper), o ∈ ops.toList → ∀ d, o.dst = some d → d < n) {K : Env → World → Prop} (hq : ∀ a w, liftK n K a w → Q .normal a w)
    {id : Nat} {draw : Bool} {l : List (List Nat × Ann)} (hr : Rep n a e) (h : regionM P ops l draw e w K) : (Code.region id ops draw).wp P Q a w := by
  unfold regionM at h
  split at h
  · rename_i hm hsel
    have hsel' : NoSel ops := by
      intro j o cs b hj ho
      have hmem : o ∈ ops.toList := by
        have := Array.mem_of_getElem? hj
        simpa using this
      have : ops.toList.any isSelect = true := List.any_eq_true.2 ⟨o, hmem, by simp [isSelect, ho]⟩
      rw [hsel] at this
      cases this
    refine wp_region_any hmix (wpAny_of_C _ _ _ _ ?_)
    exact meets_sound hQ hsel' hm (fun i o ho d hd => hdst o (by have := Array.mem_of_getElem? ho; simpa using this) d hd) hq l _ _ e a w.drew start_inv (by simp) hr h
  · exact h.elim
end
end Go.Proofs.YtjmlfknogjaemaaDoor.Vc
/- From a function's plain statement to what a call of it does. -/
set_option linter.unusedSimpArgs false
set_option linter.unusedVariables false
namespace Go.Proofs.YtjmlfknogjaemaaDoor.Vc
open Go

section
variable {P : Program} {n : Nat}

def liftQ (n : Nat) (Q : Exit → Env → World → Prop) : Exit → Act → World → Prop := fun ex a w =>
  match ex with
  | .panic _ => False
  | .outgrown => False
  | ex => ∃ e, Rep n a e ∧ Q ex e w
theorem calm_lift (Q : Exit → Env → World → Prop) : Calm (liftQ n Q) := ⟨fun _ _ _ h => h, fun _ _ h => h⟩

theorem wp_loop' {Q : Exit → Act → World → Prop} {c : Code} (I : Act → World → Nat → Prop) {a : Act} {w : World} {k : Nat} (h₀ : I a w k)
    (round : ∀ a w n, I a w n → c.wp P (Exit.then (fun a' w' => ∃ m, m < n ∧ I a' w' m) Q) a w) : (Code.loop c).wp P Q a w := by
  intro b kk cs
  have key : ∀ n a w, I a w n → ∃ e a' w', Q e a' w' ∧ Arrives P (lone (b.at a (.code c :: .inLoop c :: kk)) cs w) b kk cs e a' w' := by
    intro n
    induction n using Nat.strongRecOn with
    | _ n ih =>
      intro a w hI
      obtain ⟨e, a₁, w₁, hq, harr⟩ := round a w n hI b (.inLoop c :: kk) cs
      cases e with
      | normal =>
        obtain ⟨m, hlt, hI₁⟩ := hq
        obtain ⟨e₂, a₂, w₂, hq₂, harr₂⟩ := ih m hlt a₁ w₁ hI₁
        exact ⟨e₂, a₂, w₂, hq₂, .of_steps (Steps.trans harr (.one step_inLoop)) harr₂⟩
      | exit id => exact ⟨_, a₁, w₁, hq, .pass (x := .inLoop c) rfl (fun _ _ => .inl (by simp)) harr⟩
      | goto l => exact ⟨_, a₁, w₁, hq, .pass (x := .inLoop c) rfl (fun _ _ => .inl (by simp)) harr⟩
      | ret => exact ⟨_, a₁, w₁, hq, .pass (x := .inLoop c) rfl (fun _ _ => .inl (by simp)) harr⟩
      | panic ch => exact ⟨_, a₁, w₁, hq, .pass (x := .inLoop c) rfl (fun _ _ => .inl (by simp)) harr⟩
      | outgrown => exact ⟨_, a₁, w₁, hq, .pass (x := .inLoop c) rfl (fun _ _ => .inl (by simp)) harr⟩
  obtain ⟨e, a', w', hq, harr⟩ := key _ a w h₀
  exact ⟨e, a', w', hq, .of_steps (.one step_loop) harr⟩

theorem wpV_sound (hmix : P.follows .mixedOrders = true) {AL AC : Nat → Option Ann} : ∀ (c : Code) (Q : Exit → Env → World → Prop) (e : Env) (a : Act) (w : World), dstsOk n c = true → Rep n a e →
    wpV P AL AC c Q e w → c.wp P (liftQ n Q) a w := by
  intro c
  induction c with
  | skip => intro Q e a w _ hr h; exact wp_skip ⟨e, hr, h⟩
  | label l => intro Q e a w _ hr h; exact wp_label ⟨e, hr, h⟩
  | region id ops draw =>
    intro Q e a w hd hr h
    have hdst : ∀ (o : Oper), o ∈ ops.toList → ∀ d, o.dst = some d → d < n := by
      intro o ho d hod
      have := List.all_eq_true.1 hd o ho
      simp only [hod] at this
      exact Nat.lt_of_lt_of_le (Nat.lt_succ_self _) (Nat.le_of_ble_eq_true this)
    simp only [wpV] at h
    split at h
    · split at h
      · exact regionV_sound hmix (calm_lift Q) (K := Q .normal) (n := n) hdst (fun a w ⟨e, h1, h2⟩ => ⟨e, h1, h2⟩) hr h
      · exact regionM_sound hmix (calm_lift Q) (K := Q .normal) (n := n) hdst (fun a w ⟨e, h1, h2⟩ => ⟨e, h1, h2⟩) hr h
    · exact regionW_sound hmix (calm_lift Q) (K := Q .normal) (n := n) hdst (fun a w ⟨e, h1, h2⟩ => ⟨e, h1, h2⟩) hr h
  | seq x y ihx ihy =>
    intro Q e a w hd hr h
    simp only [dstsOk, Bool.and_eq_true] at hd
    unfold wpV at h
    split at h
    · refine wp_seq (wp_mono (ihx _ e a w hd.1 hr h) ?_)
      intro ex a' w' hq
      cases ex with
      | normal => obtain ⟨e', h1, h2⟩ := hq; exact ihy Q e' a' w' hd.2 h1 h2
      | panic ch => exact hq
      | outgrown => exact hq
      | exit id => exact hq
      | goto l => exact hq
      | ret => exact hq
    · rename_i an _
      obtain ⟨M, h1, h2⟩ := h
      refine wp_seq (wp_mono (ihx _ e a w hd.1 hr h1) ?_)
      intro ex a' w' hq
      cases ex with
      | normal =>
        obtain ⟨e', g1, g2, g3⟩ := hq
        obtain ⟨e1, J, g4, g5, g6⟩ := appV_spec (h2 e') g3
        have : e1 = e' := keep_back (valsE_spec g2) g6
        subst this
        exact ihy Q e1 a' w' hd.2 g1 (g4 w' g5)
      | panic ch => exact hq
      | outgrown => exact hq
      | exit id => exact hq
      | goto l => exact hq
      | ret => exact hq
  | cond x y z ihy ihz =>
    intro Q e a w hd hr h
    simp only [dstsOk, Bool.and_eq_true] at hd
    unfold wpV at h
    split at h
    · rename_i t ht
      refine wp_cond (t := t) (by rw [hr.eval]; exact ht) ?_
      cases t
      · exact ihz Q e a w hd.2 hr h
      · exact ihy Q e a w hd.1 hr h
    · exact h.elim
  | block id c ih =>
    intro Q e a w hd hr h
    refine wp_block (wp_mono (ih _ e a w hd hr h) ?_)
    intro ex a' w' hq
    cases ex with
    | normal => exact hq
    | panic ch => exact hq
    | outgrown => exact hq
    | goto l => exact hq
    | ret => exact hq
    | exit i =>
      obtain ⟨e', h1, h2⟩ := hq
      simp only [Exit.inBlock]
      by_cases hi : i = id
      · subst hi
        rw [if_pos rfl]
        refine ⟨e', h1, ?_⟩
        have : Nat.beq i i = true := Nat.beq_refl i
        simpa [this] using h2
      · rw [if_neg hi]
        refine ⟨e', h1, ?_⟩
        have : Nat.beq i id = false := by
          cases hb : Nat.beq i id with
          | false => rfl
          | true => exact absurd (Nat.eq_of_beq_eq_true hb) hi
        simpa [this] using h2
  | loop c ih =>
    intro Q e a w hd hr h
    unfold wpV at h
    split at h
    · exact h.elim
    · rename_i an _
      obtain ⟨I, ⟨k, h0⟩, h1⟩ := h
      refine wp_loop' (fun a' w' n' => ∃ e0, Rep n a' e0 ∧ (∀ t ∈ an.keep, e0 t = e t) ∧ appV an.live I e0 fun J => J w' n') ⟨e, hr, fun _ _ => rfl, h0⟩ ?_
      rintro a' w' n' ⟨e0, g1, g2, g3⟩
      obtain ⟨e1, J, g4, g5, g6⟩ := appV_spec (h1 e0) g3
      have : e1 = e0 := keep_back g2 g6
      subst this
      refine wp_mono (ih _ e1 a' w' hd g1 (g4 w' n' g5)) ?_
      intro ex a'' w'' hq
      cases ex with
      | normal =>
        obtain ⟨e'', q1, q2, m, q3, q4⟩ := hq
        exact ⟨m, q3, e'', q1, valsE_spec q2, q4⟩
      | panic ch => exact hq
      | outgrown => exact hq
      | exit id => exact hq
      | goto l => exact hq
      | ret => exact hq
  | exit id => intro Q e a w _ hr h; exact wp_exit ⟨e, hr, h⟩
  | goto l => intro Q e a w _ hr h; exact wp_goto ⟨e, hr, h⟩
  | ret => intro Q e a w _ hr h; exact wp_ret ⟨e, hr, h⟩
  | rangeFunc _ _ _ _ _ _ => intro Q e a w _ hr h; exact h.elim
  | scope c ih => intro Q e a w _ hr h; exact h.elim
  | refuse s => intro Q e a w _ hr h; exact h.elim

def resF (tmps : Array Value) : ResultVar → Sem Value
  | .tmp t => pure (tmps.getD t undef)
  | .cell p t => do loadVar t (← asAddr (tmps.getD p undef))
theorem results_eq (fn : Func) (tmps : Array Value) : results fn tmps = (do
    let vs ← fn.results.mapM (resF tmps)
    pure (if h : vs.size = 1 then vs[0] else .tuple vs)) := rfl
theorem run_results {fn : Func} {a : Act} {e : Env} {w : World} {R : Value → World → Prop} (hr : Rep n a e)
    (h : retsV P e w fn.results.toList fun vs => R (tupled vs) w) : ∃ v, (results fn a.tmps).run P w = .ok v w ∧ R v w := by
  have key : ∀ (l : List ResultVar) (F : List Value → Prop), retsV P e w l F → ∃ vs, (l.mapM (resF a.tmps)).run P w = .ok vs w ∧ F vs := by
    intro l
    induction l with
    | nil => intro F h; exact ⟨[], by simp, h⟩
    | cons r l ih =>
      intro F h
      cases r with
      | tmp t =>
        obtain ⟨vs, h1, h2⟩ := ih _ h
        refine ⟨_, ?_, h2⟩
        have h5 : (resF a.tmps (.tmp t)).run P w = .ok (e t) w := by simp [resF, hr.val]
        simp only [List.mapM_cons, Sem.run_bind, Sem.run_pure, Result.andThen_ok, h1, h5]
      | cell p t =>
        simp only [retsV] at h
        have hp : ∃ ad, e p = .pointer (some ad) := by
          split at h
          · rename_i hh; exact ⟨_, hh⟩
          · exact h.elim
        obtain ⟨ad, hp⟩ := hp
        obtain ⟨v, h1, h2⟩ := sem_load (P := P) (x := e p) (t := t) (w := w) (K := fun v _ => retsV P e w l fun vs => F (v :: vs)) h
        obtain ⟨vs, h3, h4⟩ := ih _ h2
        refine ⟨_, ?_, h4⟩
        have h5 : (resF a.tmps (.cell p t)).run P w = .ok v w := by
          rw [hp] at h1
          simpa [resF, hr.val, hp, asAddr, Instr.loadAt, Instr.sureAddr] using h1
        simp only [List.mapM_cons, Sem.run_bind, Sem.run_pure, Result.andThen_ok, h5, h3]
  obtain ⟨vs, h1, h2⟩ := key _ _ h
  refine ⟨tupled vs, ?_, h2⟩
  rw [results_eq, Sem.run_bind, Array.mapM_eq_mapM_toList]
  have h6 : (List.toArray <$> fn.results.toList.mapM (resF a.tmps)).run P w = .ok vs.toArray w := by
    rw [map_eq_pure_bind]
    simp [h1]
  rw [h6]
  simp only [Result.andThen_ok, Sem.run_pure]
  congr 1
  match vs with
  | [] => rfl
  | [v] => rfl
  | _ :: _ :: _ => simp [tupled]

theorem funV_sound (hmix : P.follows .mixedOrders = true) {AL AC : Nat → Option Ann} {f : FuncId} {fn : Func} (hf : P.funcs[f]? = some fn) {args : Array Value} {w : World} {R : Value → World → Prop}
    (h : funV P fn AL AC args w R) : Calls P f args w fun e w' => ∃ v, e = .returned v ∧ R v w' := by
  unfold funV at h
  split at h
  · rename_i c hc
    split at h
    · rename_i hd hsz
      have hsz' : args.size ≤ fn.ntmps := Nat.le_of_ble_eq_true hsz
      refine calls_of_wp hf hc (wp_mono (wpV_sound (n := fn.ntmps) hmix c _ (argsE args) _ w hd ?_ h) ?_)
      · refine ⟨by simp; omega, rfl, fun t => ?_⟩
        unfold argsE
        simp only [Array.getD_eq_getD_getElem?, Array.getElem?_append]
        split
        · rfl
        · rename_i hge
          have : args[t]? = none := by simp; omega
          rw [this]
          by_cases h2 : t - args.size < fn.ntmps - args.size <;> simp [Array.getElem?_replicate, h2]
      · intro ex a' w' hq
        cases ex with
        | normal =>
          obtain ⟨e, h1, h2⟩ := hq
          obtain ⟨v, h3, h4⟩ := run_results h1 h2
          exact ⟨h1.defers, v, h3, v, rfl, h4⟩
        | ret =>
          obtain ⟨e, h1, h2⟩ := hq
          obtain ⟨v, h3, h4⟩ := run_results h1 h2
          exact ⟨h1.defers, v, h3, v, rfl, h4⟩
        | panic ch => exact hq.elim
        | outgrown => exact hq.elim
        | exit id => obtain ⟨e, h1, h2⟩ := hq; exact h2.elim
        | goto l => obtain ⟨e, h1, h2⟩ := hq; exact h2.elim
    · exact h.elim
  · exact h.elim

end
end Go.Proofs.YtjmlfknogjaemaaDoor.Vc
