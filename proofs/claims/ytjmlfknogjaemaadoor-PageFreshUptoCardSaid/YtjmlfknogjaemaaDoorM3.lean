/- A plan of a region that draws its order is enough: each order does what the plan says. -/
import Derived.Test.YtjmlfknogjaemaaDoorM2
set_option linter.unusedSimpArgs false
set_option linter.unusedVariables false
namespace Go.Proofs.YtjmlfknogjaemaaDoor.Vc
open Go

section
variable {P : Program} {ops : Array Oper} {Q : Exit → Act → World → Prop} {n : Nat}

theorem Oper.upon_mono' {o : Oper} {a : Act} {K K' : Act → World → Prop} {r : Result Next} (h : ∀ a w, K a w → K' a w) (hh : o.upon P a K Q r) : o.upon P a K' Q r := by
  cases r with
  | ok n w' =>
    cases n <;> simp only [Oper.upon] at hh ⊢ <;>
      first
        | exact h _ _ hh
        | exact Calls.mono hh (fun e w'' he => by cases e <;> first | exact h _ _ he | exact he)
        | exact Rows.mono hh (fun _ _ he => h _ _ he)
  | halt x w' => cases x <;> simp only [Oper.upon] at hh ⊢ <;> exact hh

/-- No panic, no way out. -/
structure Calm (Q : Exit → Act → World → Prop) : Prop where
  panic : ∀ c a w, ¬ Q (.panic c) a w
  out : ∀ a w, ¬ Q .outgrown a w

def softNow (P : Program) (ops : Array Oper) (i : Nat) (a : Act) : Prop :=
  ∀ o, ops[i]? = some o → softK o = true → Region.wanted o (yielded ops a.tmps) = true → SoftAt P o a.eval
def wpOpC (P : Program) (ops : Array Oper) (Q : Exit → Act → World → Prop) (i : Nat) (K : Act → World → Prop) (a : Act) (w : World) : Prop :=
  softNow P ops i a ∧ wpOp P ops Q i K a w
def wpAnyC (P : Program) (ops : Array Oper) (Q : Exit → Act → World → Prop) : Nat → Array Bool → Act → World → Prop
  | 0, listed, a, w => Region.ready .any ops listed = [] ∧ Q .normal a w
  | fuel + 1, listed, a, w =>
    (Region.ready .any ops listed = [] → Q .normal a w) ∧
    ∀ i ∈ Region.ready .any ops listed, wpOpC P ops Q i (wpAnyC P ops Q fuel (listed.setIfInBounds i true)) a w
theorem wpAny_of_C : ∀ (fuel : Nat) (listed : Array Bool) (a : Act) (w : World), wpAnyC P ops Q fuel listed a w → wpAny P .any ops Q fuel listed a w
  | 0, _, _, _, h => h
  | fuel + 1, _, _, _, h => ⟨h.1, fun i hi => wpOp_mono (fun a' w' h' => wpAny_of_C fuel _ a' w' h') (h.2 i hi).2⟩
theorem wpOpC_mono {i : Nat} {a : Act} {w : World} {K K' : Act → World → Prop} (h : ∀ a w, K a w → K' a w) (hh : wpOpC P ops Q i K a w) : wpOpC P ops Q i K' a w :=
  ⟨hh.1, wpOp_mono h hh.2⟩

def NoSel (ops : Array Oper) : Prop := ∀ (j : Nat) (o : Oper) cs b, ops[j]? = some o → o.op ≠ .select cs b

theorem softNow_put {j : Nat} {oi oj : Oper} {v : Value} {a : Act} (hj : ops[j]? = some oj) (hsj : ∀ cs b, oj.op ≠ .select cs b) (h1 : ∀ d, oi.dst = some d → d ∉ oj.looksAt ops)
    (h : softNow P ops j (a.put oi.dst v)) : softNow P ops j a := by
  intro o ho hs hw
  rw [hj] at ho
  injection ho with ho
  subst ho
  have h2 := h oj hj hs (by rw [wanted_put oj a oi.dst v h1]; exact hw)
  have he : (a.put oi.dst v).eval = (a.put oi.dst v).eval := rfl
  intro w n w' hr
  refine h2 w n w' ?_
  rw [execOp_put oj hsj a oi.dst v h1]
  exact hr

/-- Taking first what hangs on its operands alone. -/
theorem wpAnyC_pure (hQ : Calm Q) (hsel : NoSel ops) {i : Nat} {oi : Oper} {v : Value} (hi : ops[i]? = some oi) :
    ∀ (fuel : Nat) (listed : Array Bool) (a : Act) (w : World),
      (∀ j oj, ops[j]? = some oj → j ≠ i → listed.getD j true = false → (∀ e ∈ oj.after, Region.binds .any e = true → e.on ≠ i) → oi.apart ops oj = true) →
      i ∈ Region.ready .any ops listed → Yields P ops oi v a →
      wpAnyC P ops Q fuel (listed.setIfInBounds i true) (a.put oi.dst v) w → wpAnyC P ops Q (fuel + 1) listed a w := by
  have self : ∀ a, Yields P ops oi v a → softNow P ops i a := by
    intro a hy o ho hs hw
    rw [hi] at ho
    injection ho with ho
    subst ho
    rcases hy with ⟨_, hv⟩ | ⟨hw', _⟩
    · exact PureAt.soft hv
    · rw [hw'] at hw; cases hw
  intro fuel
  induction fuel with
  | zero =>
    intro listed a w hfree hr hy H
    refine ⟨fun h => (by rw [h] at hr; cases hr), fun j hj => ?_⟩
    by_cases hji : j = i
    · subst hji; exact ⟨self a hy, hy.wpOp hi H⟩
    · have := ready_mono hj hji
      rw [H.1] at this
      cases this
  | succ fuel ih =>
    intro listed a w hfree hr hy H
    refine ⟨fun h => (by rw [h] at hr; cases hr), fun j hj => ?_⟩
    by_cases hji : j = i
    · subst hji; exact ⟨self a hy, hy.wpOp hi H⟩
    · have h1 := H.2 j (ready_mono hj hji)
      obtain ⟨hjun, oj, hoj, hall⟩ := mem_ready.1 hj
      have hnot : ∀ e ∈ oj.after, Region.binds .any e = true → e.on ≠ i := fun e he hb heq => by
        have h1 := hall e he hb
        have h0 := (mem_ready.1 hr).1
        rw [heq] at h1
        rcases Nat.lt_or_ge i listed.size with h' | h'
        · simp [h'] at h0 h1; rw [h0] at h1; cases h1
        · simp [Array.getElem?_eq_none h'] at h1
      have hap := hfree j oj hoj hji hjun hnot
      have h2 := wpOp_put (P := P) (Q := Q) hoj hap (fun cs b => hsel i oi cs b hi) (fun cs b => hsel j oj cs b hoj) (fun c a w hh => absurd hh (hQ.panic _ _ _)) hy h1.2
      have hfree' : ∀ k ok, ops[k]? = some ok → k ≠ i → (listed.setIfInBounds j true).getD k true = false →
          (∀ e ∈ ok.after, Region.binds .any e = true → e.on ≠ i) → oi.apart ops ok = true := fun k ok hk hki hun hno => by
        refine hfree k ok hk hki ?_ hno
        by_cases hjk : j = k
        · subst hjk; exact hjun
        · rw [getD_set_ne true hjk] at hun; exact hun
      refine ⟨softNow_put hoj (fun cs b => hsel j oj cs b hoj) (Oper.apart_spec hap).1 h1.1, wpOp_mono (fun a' w' h3 => ih (listed.setIfInBounds j true) a' w' hfree' (ready_mono hr (Ne.symm hji)) h3.1 ?_) h2⟩
      rw [Array.setIfInBounds_comm _ _ hji]
      exact h3.2

/-- What it does in this world. -/
def ReadsAt (P : Program) (ops : Array Oper) (o : Oper) (v : Value) (a : Act) (w : World) : Prop :=
  (Region.wanted o (yielded ops a.tmps) = true ∧ (∀ w2, Ext w w2 → (execOp a.eval o).run P w2 = .ok (.value v) w2) ∧ SoftAt P o a.eval) ∨ (Region.wanted o (yielded ops a.tmps) = false ∧ v = undef)
theorem ReadsAt.ext {o : Oper} {v : Value} {a : Act} {w w' : World} (hw : Ext w w') (h : ReadsAt P ops o v a w) : ReadsAt P ops o v a w' :=
  h.imp (fun ⟨h1, h2, h3⟩ => ⟨h1, fun w2 h4 => h2 w2 (hw.trans h4), h3⟩) id

theorem ReadsAt.put {oi : Oper} {v u : Value} {a : Act} {w : World} {d : Option Tmp} (hsi : ∀ cs b, oi.op ≠ .select cs b) (h3 : ∀ x, d = some x → x ∉ oi.looksAt ops) (h : ReadsAt P ops oi v a w) : ReadsAt P ops oi v (a.put d u) w := by
  rcases h with ⟨h1, h2, h4⟩ | ⟨h1, rfl⟩
  · refine .inl ⟨by rw [wanted_put oi a d u h3]; exact h1, fun w2 hw2 => by rw [execOp_put oi hsi a d u h3]; exact h2 w2 hw2, ?_⟩
    intro w n w' hr
    rw [execOp_put oi hsi a d u h3] at hr
    exact h4 w n w' hr
  · exact .inr ⟨by rw [wanted_put oi a d u h3]; exact h1, rfl⟩
theorem ReadsAt.wpOpC {i : Nat} {oi : Oper} {v : Value} {a : Act} {w : World} {K : Act → World → Prop} (hi : ops[i]? = some oi) (h : ReadsAt P ops oi v a w) (hk : K (a.put oi.dst v) w) : Vc.wpOpC P ops Q i K a w := by
  refine ⟨fun o ho hs hw => ?_, ?_⟩
  · rw [hi] at ho
    injection ho with ho
    subst ho
    rcases h with ⟨_, _, h4⟩ | ⟨h1, _⟩
    · exact h4
    · rw [h1] at hw; cases hw
  · unfold wpOp
    simp only [hi]
    rcases h with ⟨h1, h2, _⟩ | ⟨h1, rfl⟩
    · simp only [h1, if_true]
      left
      unfold Oper.wp
      rw [h2 w (Ext.refl w)]
      exact hk
    · simp only [h1, Bool.false_eq_true, if_false]
      exact hk

/-- A soft operation that is carried out: what it did. -/
theorem does_of (hQ : Calm Q) {j : Nat} {oj : Oper} {a : Act} {w : World} {K : Act → World → Prop} (hoj : ops[j]? = some oj) (hs : softK oj = true ∨ growK oj = true) (h : wpOpC P ops Q j K a w) :
    (Region.wanted oj (yielded ops a.tmps) = true ∧ ∃ u w', (execOp a.eval oj).run P w = .ok (.value u) w' ∧ Ext w w' ∧ K (a.put oj.dst u) w') ∨
    (Region.wanted oj (yielded ops a.tmps) = false ∧ K (a.put oj.dst undef) w) := by
  obtain ⟨h1, h2⟩ := h
  unfold wpOp at h2
  simp only [hoj] at h2
  by_cases hw : Region.wanted oj (yielded ops a.tmps) = true
  · simp only [hw, if_true] at h2
    refine .inl ⟨hw, ?_⟩
    rcases h2 with h2 | ⟨_, hl⟩
    · unfold Oper.wp at h2
      cases hr : (execOp a.eval oj).run P w with
      | ok m w' =>
        have : Ext w w' ∧ ∃ u, m = .value u := by
          rcases hs with hs | hs
          · obtain ⟨e, u, hu⟩ := h1 oj hoj hs hw w m w' hr
            subst e
            exact ⟨Ext.refl _, u, hu⟩
          · exact grow_at hs w m w' hr
        obtain ⟨hext, u, rfl⟩ := this
        rw [hr] at h2
        exact ⟨u, w', rfl, hext, h2⟩
      | halt x w' =>
        rw [hr] at h2
        cases x <;> simp only [Oper.upon] at h2
        exact absurd h2 (hQ.panic _ _ _)
    · obtain ⟨a', w', hl⟩ := hl
      exact absurd hl (hQ.out _ _)
  · simp only [hw] at h2
    exact .inr ⟨by simpa using hw, h2⟩

def Closed (ops : Array Oper) (listed : Array Bool) : Prop := ∀ k o, ops[k]? = some o → listed.getD k true = true → ∀ e ∈ o.after, Region.binds .any e = true → listed.getD e.on false = true

theorem maskOk_spec {ms : List Nat} (h : maskOk ops ms = true) {k j : Nat} (hk : k < ops.size) (hj : j < ops.size) (hb : (ms.getD k 0).testBit j = true) :
    ∃ o, ops[k]? = some o ∧ ∃ e ∈ o.after, Region.binds .any e = true ∧ e.on < k ∧ (e.on = j ∨ (ms.getD e.on 0).testBit j = true) := by
  unfold maskOk at h
  have h1 := List.all_eq_true.1 h k (List.mem_range.2 hk)
  have h2 := List.all_eq_true.1 h1 j (List.mem_range.2 hj)
  simp only [hb] at h2
  split at h2
  · rename_i o ho
    obtain ⟨e, he, h3⟩ := List.any_eq_true.1 h2
    refine ⟨o, ho, e, by simpa using he, ?_⟩
    split at h3
    · rename_i hbind hlt
      refine ⟨hbind, Nat.lt_of_lt_of_le (Nat.lt_succ_self _) (Nat.le_of_ble_eq_true hlt), ?_⟩
      rw [Bool.or_eq_true] at h3
      rcases h3 with h4 | h4
      · exact .inl (Nat.eq_of_beq_eq_true h4)
      · exact .inr h4
    · cases h3
  · cases h2
theorem getD_bool {listed : Array Bool} {i : Nat} (hi : i < listed.size) (d d' : Bool) : listed.getD i d = listed.getD i d' := by
  simp [Array.getD_eq_getD_getElem?, hi]
theorem closed_mask {ms : List Nat} (hm : maskOk ops ms = true) {listed : Array Bool} (hc : Closed ops listed) (hs : listed.size = ops.size) :
    ∀ (k : Nat), k < ops.size → listed.getD k true = true → ∀ j, j < ops.size → (ms.getD k 0).testBit j = true → listed.getD j true = true := by
  intro k
  induction k using Nat.strongRecOn with
  | _ k ih =>
    intro hk hl j hj hb
    obtain ⟨o, ho, e, he, hbind, hlt, h⟩ := maskOk_spec hm hk hj hb
    have h1 := hc k o ho hl e he hbind
    have h2 : listed.getD e.on true = true := by rw [getD_bool (by omega) true false]; exact h1
    rcases h with h | h
    · subst h; exact h2
    · exact ih e.on hlt (by omega) h2 j hj h
theorem ready_mask {ms : List Nat} (hm : maskOk ops ms = true) {listed : Array Bool} (hc : Closed ops listed) (hs : listed.size = ops.size) {k j : Nat} (hk : k ∈ Region.ready .any ops listed) (hj : j < ops.size)
    (hb : (ms.getD k 0).testBit j = true) : listed.getD j true = true := by
  obtain ⟨h0, o', ho', hall⟩ := mem_ready.1 hk
  have hk' : k < ops.size := (Array.getElem?_eq_some_iff.1 ho').1
  obtain ⟨o, ho, e, he, hbind, hlt, h⟩ := maskOk_spec hm hk' hj hb
  rw [ho'] at ho
  injection ho with ho
  subst ho
  have h2 : listed.getD e.on true = true := by rw [getD_bool (by omega) true false]; exact hall e he hbind
  rcases h with h | h
  · subst h; exact h2
  · exact closed_mask hm hc hs e.on (by omega) h2 j hj h
theorem Closed.add {listed : Array Bool} (hc : Closed ops listed) {i : Nat} (hi : i ∈ Region.ready .any ops listed) : Closed ops (listed.setIfInBounds i true) := by
  intro k o ho hl e he hb
  by_cases hk : i = k
  · subst hk
    obtain ⟨_, o', ho', hall⟩ := mem_ready.1 hi
    rw [ho'] at ho
    injection ho with ho
    subst ho
    exact getD_set_true (hall e he hb)
  · rw [getD_set_ne true hk] at hl
    exact getD_set_true (hc k o ho hl e he hb)

/-- Taking first what only reads, where all that may come ahead of it only reads too. -/
theorem wpAnyC_soft (hQ : Calm Q) (hsel : NoSel ops) {ms : List Nat} (hm : maskOk ops ms = true) {i : Nat} {oi : Oper} {v : Value} (hi : ops[i]? = some oi) :
    ∀ (fuel : Nat) (listed : Array Bool) (a : Act) (w : World), Closed ops listed → listed.size = ops.size →
      (∀ j oj, ops[j]? = some oj → j ≠ i → listed.getD j true = false → (ms.getD j 0).testBit i = false → (softK oj = true ∨ growK oj = true) ∧ oi.apart ops oj = true) →
      i ∈ Region.ready .any ops listed → ReadsAt P ops oi v a w →
      wpAnyC P ops Q fuel (listed.setIfInBounds i true) (a.put oi.dst v) w → wpAnyC P ops Q (fuel + 1) listed a w := by
  have hilt : i < ops.size := (Array.getElem?_eq_some_iff.1 hi).1
  intro fuel
  induction fuel with
  | zero =>
    intro listed a w hc hs hfree hr hy H
    refine ⟨fun h => (by rw [h] at hr; cases hr), fun j hj => ?_⟩
    by_cases hji : j = i
    · subst hji; exact hy.wpOpC hi H
    · have := ready_mono hj hji
      rw [H.1] at this
      cases this
  | succ fuel ih =>
    intro listed a w hc hs hfree hr hy H
    refine ⟨fun h => (by rw [h] at hr; cases hr), fun j hj => ?_⟩
    by_cases hji : j = i
    · subst hji; exact hy.wpOpC hi H
    · have h1 := H.2 j (ready_mono hj hji)
      obtain ⟨hjun, oj, hoj, hall⟩ := mem_ready.1 hj
      have hbit : (ms.getD j 0).testBit i = false := by
        cases hb : (ms.getD j 0).testBit i with
        | false => rfl
        | true =>
          have := ready_mask hm hc hs hj hilt hb
          rw [(mem_ready.1 hr).1] at this
          cases this
      obtain ⟨hsj, hap⟩ := hfree j oj hoj hji hjun hbit
      obtain ⟨g1, g2, g3⟩ := Oper.apart_spec hap
      have hgo := does_of hQ hoj hsj h1
      have hfree' : ∀ k ok, ops[k]? = some ok → k ≠ i → (listed.setIfInBounds j true).getD k true = false → (ms.getD k 0).testBit i = false → (softK ok = true ∨ growK ok = true) ∧ oi.apart ops ok = true := by
        intro k ok hk hki hun hno
        refine hfree k ok hk hki ?_ hno
        by_cases hjk : j = k
        · subst hjk; exact hjun
        · rw [getD_set_ne true hjk] at hun; exact hun
      refine ⟨softNow_put hoj (fun cs b => hsel j oj cs b hoj) g1 h1.1, ?_⟩
      unfold wpOp
      simp only [hoj]
      rw [wanted_put oj a oi.dst v g1] at hgo
      rcases hgo with ⟨hw, u, w', hrun, hext, hk⟩ | ⟨hw, hk⟩
      · rw [execOp_put oj (fun cs b => hsel j oj cs b hoj) a oi.dst v g1] at hrun
        simp only [hw, if_true]
        left
        unfold Oper.wp
        rw [hrun]
        refine ih (listed.setIfInBounds j true) (a.put oj.dst u) w' (hc.add hj) (by simpa using hs) hfree' (ready_mono hr (Ne.symm hji)) ((hy.put (fun cs b => hsel i oi cs b hi) g3).ext hext) ?_
        rw [Array.setIfInBounds_comm _ _ hji, ← Act.put_comm a v u g2]
        exact hk
      · simp only [hw, Bool.false_eq_true, if_false]
        refine ih (listed.setIfInBounds j true) (a.put oj.dst undef) w (hc.add hj) (by simpa using hs) hfree' (ready_mono hr (Ne.symm hji)) (hy.put (fun cs b => hsel i oi cs b hi) g3) ?_
        rw [Array.setIfInBounds_comm _ _ hji, ← Act.put_comm a v undef g2]
        exact hk

/-! ### From the plain statement -/
variable {e : Env} {a : Act} {w : World}

def liftK (n : Nat) (K : Env → World → Prop) : Act → World → Prop := fun a w => ∃ e, Rep n a e ∧ K e w

theorem rep_yielded {n : Nat} {a : Act} {e : Env} (h : Rep n a e) (g : Nat) : yielded ops a.tmps g = match (ops[g]?).bind (·.dst) with
    | some t => (match e t with | .bool b => some b | _ => none)
    | none => none := by
  unfold yielded
  cases hd : (ops[g]?).bind (·.dst) with
  | none => rfl
  | some t =>
    have hv := h.val t
    simp only [Option.bind_some]
    cases ht : a.tmps[t]? with
    | none =>
      have : e t = undef := by rw [← hv]; simp [Array.getD_eq_getD_getElem?, ht]
      rw [this]; rfl
    | some u =>
      have : e t = u := by rw [← hv]; simp [Array.getD_eq_getD_getElem?, ht]
      rw [this]
      cases u <;> rfl

/-- What a guard leaves: it is wanted and done, or it is not. -/
theorem goV_cases {o : Oper} {K : Env → World → Prop} (hr : Rep n a e) (h : goV P ops o e w K) :
    (Region.wanted o (yielded ops a.tmps) = true ∧ ∃ e', Rep n a e' ∧ (∀ t, e' t = e t) ∧ opV P o e' w fun v w' => K (putE e' o.dst v) w') ∨
    (Region.wanted o (yielded ops a.tmps) = false ∧ ∃ e', Rep n a e' ∧ K (putE e' o.dst undef) w) := by
  unfold goV at h
  split at h
  · rename_i hg
    exact .inl ⟨by simp [Region.wanted, hg], e, hr, fun _ => rfl, h⟩
  · rename_i g want hg
    have hw : Region.wanted o (yielded ops a.tmps) = (yielded ops a.tmps g == some want) := by simp [Region.wanted, hg]
    rw [hw, rep_yielded hr]
    split at h
    · rename_i t ht
      rw [ht]
      simp only
      split at h
      · rename_i b hb
        rw [hb]
        cases b
        · simp only [sel] at h
          cases want
          · exact .inl ⟨by simp, _, hr.fix t _ hb, fun x => by rw [← hb, upd_id], h⟩
          · exact .inr ⟨by simp, _, hr.fix t _ hb, h⟩
        · simp only [sel] at h
          cases want
          · exact .inr ⟨by simp, _, hr.fix t _ hb, h⟩
          · exact .inl ⟨by simp, _, hr.fix t _ hb, fun x => by rw [← hb, upd_id], h⟩
      · rename_i hnb
        refine .inr ⟨?_, e, hr, h⟩
        split
        · rename_i b hb; exact absurd hb (hnb b)
        · rfl
    · rename_i ht
      rw [ht]
      exact .inr ⟨rfl, e, hr, h⟩

theorem goV_wp {o : Oper} {K : Env → World → Prop} (hd : ∀ d, o.dst = some d → d < n) (hr : Rep n a e) (h : goV P ops o e w K) :
    if Region.wanted o (yielded ops a.tmps) then o.wp P a w (liftK n K) Q else liftK n K (a.put o.dst undef) w := by
  rcases goV_cases hr h with ⟨hw, e', hr', _, h⟩ | ⟨hw, e', hr', h⟩
  · rw [if_pos hw]
    have := opV_upon (a := a) (Q := Q) h
    unfold Oper.wp
    rw [hr'.evals]
    refine Oper.upon_mono' ?_ this
    rintro a' w' ⟨v, rfl, hk⟩
    exact ⟨_, hr'.put o.dst v hd, hk⟩
  · rw [if_neg (by simp [hw])]
    exact ⟨_, hr'.put o.dst undef hd, h⟩

theorem opV_reads {o : Oper} {K : Value → World → Prop} (hs : isLoad o = true ∨ pureB P o e = true) (h : opV P o e w K) :
    ∃ v, (∀ w2, Ext w w2 → (execOp (ev e) o).run P w2 = .ok (.value v) w2) ∧ SoftAt P o (ev e) ∧ K v w := by
  rcases hs with hl | hp
  · have hsoft : SoftAt P o (ev e) := soft_load hl
    obtain ⟨dst, op, type, pos, after, guard⟩ := o
    cases op <;> simp [isLoad] at hl
    case load t x =>
      simp only [opV] at h
      obtain ⟨v, hr, hk⟩ := stable_load h
      exact ⟨v, fun w2 hw => by simp [execOp, hr w2 hw], hsoft, hk⟩
  · obtain ⟨v, hv, hk⟩ := opV_pure hp h
    exact ⟨v, fun w2 _ => hv w2, PureAt.soft hv, hk⟩

theorem skip_wanted {o : Oper} (hr : Rep n a e) (h : skipB ops e o = true) : Region.wanted o (yielded ops a.tmps) = false := by
  unfold skipB at h
  split at h
  · cases h
  · rename_i g want hg
    have hw : Region.wanted o (yielded ops a.tmps) = (yielded ops a.tmps g == some want) := by simp [Region.wanted, hg]
    rw [hw, rep_yielded hr]
    split at h
    · cases h
    · rename_i t ht
      rw [ht]
      simp only
      split at h
      · rename_i b hb
        rw [hb]
        cases b <;> cases want <;> first | (cases h; done) | simp
      · rename_i hb
        cases hv : e t <;> first | (exact absurd hv (hb _)) | simp [hv]
theorem well_spec {i : Nat} {o : Oper} (hi : ops[i]? = some o) (h : wellB P ops e i = true) (hs : softK o = true) (hr : Rep n a e) (hw : Region.wanted o (yielded ops a.tmps) = true) : isLoad o = true ∨ pureB P o e = true := by
  unfold wellB at h
  rw [hi] at h
  simp only [hs, Bool.not_true, Bool.false_or, Bool.or_eq_true] at h
  rcases h with h | h
  · exact h
  · rw [skip_wanted hr h] at hw; cases hw

theorem goV_wpOpC {i : Nat} {o : Oper} {K : Env → World → Prop} (hi : ops[i]? = some o) (hd : ∀ d, o.dst = some d → d < n) (hr : Rep n a e) (hw : wellB P ops e i = true) (h : goV P ops o e w K) :
    wpOpC P ops Q i (liftK n K) a w := by
  refine ⟨fun o' ho' hs hwant => ?_, ?_⟩
  · rw [hi] at ho'
    injection ho' with ho'
    subst ho'
    rcases goV_cases hr h with ⟨_, e', hr', he, h2⟩ | ⟨h0, _⟩
    · have : e' = e := funext he
      subst this
      obtain ⟨v, _, hsoft, _⟩ := opV_reads (well_spec hi hw hs hr hwant) h2
      rw [hr'.evals]
      exact hsoft
    · rw [h0] at hwant; cases hwant
  · unfold wpOp
    simp only [hi]
    have := goV_wp (Q := Q) hd hr h
    split
    · rename_i hw'
      rw [if_pos hw'] at this
      exact .inl this
    · rename_i hw'
      rw [if_neg hw'] at this
      exact this

theorem settle_out {r : Nat} {e : Env} {k : Env → Prop} (h : settleV P ops r e k) : k e := by
  unfold settleV at h
  split at h
  · exact h
  split at h
  · exact h
  split at h
  · exact h
  split at h
  · exact h
  rename_i t _
  split at h
  · rename_i b hb
    have hu : ∀ v, e t = v → upd e t v = e := fun v hv => by
      subst hv
      funext x
      unfold upd
      cases hx : Nat.beq x t with
      | true => rw [Nat.eq_of_beq_eq_true hx]
      | false => rfl
    cases b with
    | true => rw [← hu _ hb]; exact h
    | false => rw [← hu _ hb]; exact h
  · exact h
theorem planV_sound (hQ : Calm Q) (hsel : NoSel ops) {ms : List Nat} (hm : maskOk ops ms = true) (hdst : ∀ (i : Nat) (o : Oper), ops[i]? = some o → ∀ d, o.dst = some d → d < n) {K : Env → World → Prop}
    (hq : ∀ a w, liftK n K a w → Q .normal a w) : ∀ (fuel : Nat) (listed : Array Bool) (e : Env) (a : Act) (w : World), Closed ops listed → listed.size = ops.size → Rep n a e →
      planV P ops ms fuel listed e w K → wpAnyC P ops Q fuel listed a w := by
  intro fuel
  induction fuel with
  | zero =>
    intro listed e a w hc hs hr h
    unfold planV at h
    try simp only [normA_eq] at h
    split at h
    · rename_i hre
      exact ⟨hre, hq _ _ ⟨e, hr, h⟩⟩
    · exact h.elim
  | succ fuel ih =>
    intro listed e a w hc hs hr h
    unfold planV at h
    try simp only [normA_eq] at h
    split at h
    · rename_i hre
      exact ⟨fun _ => hq _ _ ⟨e, hr, h⟩, fun i hi => by rw [hre] at hi; cases hi⟩
    · rename_i r rs hre
      replace h := settle_out h
      have next : ∀ (i : Nat) {a' : Act} {w' : World}, i ∈ Region.ready .any ops listed → liftK n (fun e' w' => planV P ops ms fuel (listed.setIfInBounds i true) e' w' K) a' w' → wpAnyC P ops Q fuel (listed.setIfInBounds i true) a' w' := by
        intro i a' w' hi hl
        obtain ⟨e', hr', hp⟩ := hl
        exact ih _ e' a' w' (hc.add hi) (by simpa using hs) hr' hp
      split at h
      · rename_i i hf
        have hmem := List.mem_of_find?_eq_some hf
        have hprop := List.find?_some hf
        rw [Bool.and_eq_true] at hprop
        obtain ⟨hpure, hfree⟩ := hprop
        rw [← hre] at hmem
        unfold stepV at h
        split at h
        · rename_i o ho
          have hp : pureB P o e = true ∨ skipB ops e o = true := by simpa [pureAt, ho] using hpure
          have hfree' : ∀ j oj, ops[j]? = some oj → j ≠ i → listed.getD j true = false → (∀ e ∈ oj.after, Region.binds .any e = true → e.on ≠ i) → o.apart ops oj = true := by
            intro j oj hj hji hun hno
            unfold freeB at hfree
            rw [ho] at hfree
            have h1 := List.all_eq_true.1 hfree j (List.mem_range.2 (Array.getElem?_eq_some_iff.1 hj).1)
            have hu : unl listed j = true := by simp only [unl, hun]
            rw [hu] at h1
            simp only [hj] at h1
            have hb : Nat.beq j i = false := by
              cases hb : Nat.beq j i with
              | false => rfl
              | true => exact absurd (Nat.eq_of_beq_eq_true hb) hji
            rw [hb, Bool.false_or, Bool.or_eq_true] at h1
            rcases h1 with h1 | h1
            · obtain ⟨e, he, h2⟩ := List.any_eq_true.1 h1
              rw [Bool.and_eq_true] at h2
              exact absurd (Nat.eq_of_beq_eq_true h2.2) (hno e (by simpa using he) h2.1)
            · exact h1
          rcases goV_cases hr h with ⟨hw, e', hr', he, h2⟩ | ⟨hw, e', hr', h⟩
          · have : e' = e := funext he
            subst this
            have hp : pureB P o e' = true := by
              rcases hp with hp | hp
              · exact hp
              · rw [skip_wanted hr hp] at hw; cases hw
            obtain ⟨v, hv, hk⟩ := opV_pure hp h2
            refine wpAnyC_pure hQ hsel ho fuel listed a w hfree' hmem (v := v) (.inl ⟨hw, ?_⟩) (next i hmem ⟨_, hr'.put o.dst v (hdst i o ho), hk⟩)
            rw [hr'.evals]
            exact hv
          · exact wpAnyC_pure hQ hsel ho fuel listed a w hfree' hmem (v := undef) (.inr ⟨hw, rfl⟩) (next i hmem ⟨_, hr'.put o.dst undef (hdst i o ho), h⟩)
        · exact h.elim
      · split at h
        · exact h.elim
        · rename_i hwell
          have hwell' : ∀ i ∈ Region.ready .any ops listed, wellB P ops e i = true := by
            intro i hi
            rw [hre] at hi
            exact List.all_eq_true.1 hwell i hi
          have each : ∀ i ∈ Region.ready .any ops listed, stepV P ops e w i (fun e' w' => planV P ops ms fuel (listed.setIfInBounds i true) e' w' K) →
              wpOpC P ops Q i (wpAnyC P ops Q fuel (listed.setIfInBounds i true)) a w := by
            intro i hi hst
            unfold stepV at hst
            split at hst
            · rename_i o ho
              exact wpOpC_mono (fun a' w' hl => next i hi hl) (goV_wpOpC ho (hdst i o ho) hr (hwell' i hi) hst)
            · exact hst.elim
          split at h
          · rename_i i hf
            have hmem := List.mem_of_find?_eq_some hf
            have hsoft := List.find?_some hf
            rw [← hre] at hmem
            have hsoft' : softB ops ms listed i = true := hsoft
            unfold stepV at h
            split at h
            · rename_i o ho
              unfold softB at hsoft'
              rw [ho] at hsoft'
              simp only [Bool.and_eq_true] at hsoft'
              obtain ⟨hsk, hall⟩ := hsoft'
              have hfree' : ∀ j oj, ops[j]? = some oj → j ≠ i → listed.getD j true = false → (ms.getD j 0).testBit i = false → (softK oj = true ∨ growK oj = true) ∧ o.apart ops oj = true := by
                intro j oj hj hji hun hno
                have h1 := List.all_eq_true.1 hall j (List.mem_range.2 (Array.getElem?_eq_some_iff.1 hj).1)
                have hu : unl listed j = true := by simp only [unl, hun]
                rw [hu] at h1
                simp only [hj] at h1
                have hb : Nat.beq j i = false := by
                  cases hb : Nat.beq j i with
                  | false => rfl
                  | true => exact absurd (Nat.eq_of_beq_eq_true hb) hji
                rw [hb, hno, Bool.false_or, Bool.false_or, Bool.and_eq_true, Bool.or_eq_true] at h1
                exact h1
              rcases goV_cases hr h with ⟨hw, e', hr', he, h2⟩ | ⟨hw, e', hr', h⟩
              · have : e' = e := funext he
                subst this
                obtain ⟨v, hv, hso, hk⟩ := opV_reads (well_spec ho (hwell' i hmem) hsk hr hw) h2
                refine wpAnyC_soft hQ hsel hm ho fuel listed a w hc hs hfree' hmem (v := v) (.inl ⟨hw, ?_, ?_⟩) (next i hmem ⟨_, hr'.put o.dst v (hdst i o ho), hk⟩)
                · intro w2 hw2; rw [hr'.evals]; exact hv w2 hw2
                · rw [hr'.evals]; exact hso
              · exact wpAnyC_soft hQ hsel hm ho fuel listed a w hc hs hfree' hmem (v := undef) (.inr ⟨hw, rfl⟩) (next i hmem ⟨_, hr'.put o.dst undef (hdst i o ho), h⟩)
            · exact h.elim
          · refine ⟨fun h0 => (by rw [hre] at h0; cases h0), fun i hi => ?_⟩
            split at h
            · have : i = r := by rw [hre] at hi; simpa using hi
              subst this
              exact each i hi h
            · rw [hre] at hi
              have pick : ∀ (l : List Nat) (F : Nat → Prop), allOf l F → i ∈ l → F i := by
                intro l
                induction l with
                | nil => intro F _ hi; cases hi
                | cons x l ih =>
                  intro F hF hi
                  rcases List.mem_cons.1 hi with rfl | hi
                  · exact hF.1
                  · exact ih F hF.2 hi
              exact each i (by rw [hre]; exact hi) (pick _ _ h hi)

theorem listV_sound (hdst : ∀ (o : Oper), o ∈ ops.toList → ∀ d, o.dst = some d → d < n) {K : Env → World → Prop} (hq : ∀ a w, liftK n K a w → Q .normal a w) :
    ∀ (l : List Oper), (∀ o ∈ l, o ∈ ops.toList) → ∀ (e : Env) (a : Act) (w : World), Rep n a e → listV P ops l e w K → wpList P ops Q l a w := by
  intro l
  induction l with
  | nil => intro _ e a w hr h; exact hq _ _ ⟨e, hr, h⟩
  | cons o l ih =>
    intro hl e a w hr h
    refine wpList_step fun K' hK' => ?_
    have := goV_wp (Q := Q) (hdst o (hl o (by simp))) hr h
    split
    · rename_i hw
      rw [if_pos hw] at this
      refine Oper.upon_mono' ?_ this
      rintro a' w' ⟨e', hr', hk⟩
      exact hK' _ _ (ih (fun o ho => hl o (by simp [ho])) e' a' w' hr' hk)
    · rename_i hw
      rw [if_neg hw] at this
      obtain ⟨e', hr', hk⟩ := this
      exact hK' _ _ (ih (fun o ho => hl o (by simp [ho])) e' _ w hr' hk)

theorem regionV_sound (hmix : P.follows .mixedOrders = true) (hQ : Calm Q) (hdst : ∀ (o : Oper), o ∈ ops.toList → ∀ d, o.dst = some d → d < n) {K : Env → World → Prop} (hq : ∀ a w, liftK n K a w → Q .normal a w)
    {id : Nat} {draw : Bool} (hr : Rep n a e) (h : regionV P ops draw e w K) : (Code.region id ops draw).wp P Q a w := by
  unfold regionV at h
  split at h
  · exact wp_region_list (listV_sound hdst hq ops.toList (fun _ h => h) e a w hr h)
  · unfold drawV at h
    split at h
    · rename_i hm hsel
      have hsel' : NoSel ops := by
        intro j o cs b hj ho
        have hmem : o ∈ ops.toList := by
          have := Array.mem_of_getElem? hj
          simpa using this
        have : ops.toList.any isSelect = true := List.any_eq_true.2 ⟨o, hmem, by simp [isSelect, ho]⟩
        rw [hsel] at this
        cases this
      refine wp_region_any hmix (wpAny_of_C _ _ _ _ ?_)
      refine planV_sound hQ hsel' hm (fun i o ho d hd => hdst o (by have := Array.mem_of_getElem? ho; simpa using this) d hd) hq ops.size _ e a w.drew ?_ (by simp) hr h
      intro k o hk hl
      have hlt : k < ops.size := (Array.getElem?_eq_some_iff.1 hk).1
      simp [Array.getD_eq_getD_getElem?, hlt] at hl
    · exact h.elim

end
end Go.Proofs.YtjmlfknogjaemaaDoor.Vc
