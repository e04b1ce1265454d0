/-
  CREW: three answers to one question, in company.
-/
import Derived.Test.YtplndihadjfliaaM11
import Derived.Test.YtplndihadjfliaaM10
set_option linter.unusedSimpArgs false
set_option linter.unusedVariables false
set_option maxHeartbeats 2000000
namespace Go.Proofs.Ytplndihadjfliaa.Mix
open Go Go.Conc Go.ConcN Go.Proofs Go.RowKit

theorem IR.of_own {ch : List Nat} {a0 : Option Addr} {n cap lo : Nat} {xs : List Int} {w : World} (h : w.ownsRow lo 3 1 (.slice a0 n cap) n (xs.map iv)) (hm : n ≤ 9223372036854775807) (hn : ∀ k, (Value.slice a0 n cap).ownBlock = some k → k ∉ ch) : IR ch a0 n xs w := by
  have hl : xs.length = n := by have := own_len h; simpa using this
  rcases h.2 with ⟨h0, h1⟩ | ⟨g, cp, cur, h0, _⟩
  · cases h0
    exact ⟨hl, hm, fun h => by omega, fun a h => (by cases h), fun j a hj h => (by cases h)⟩
  · cases h0
    refine ⟨hl, hm, fun _ => ⟨_, rfl⟩, fun a h _ => (by cases h; exact hn g rfl), fun j a hj h' => ?_⟩
    cases h'
    have := h.cells (g := g) rfl j (iv (xs[j]?.getD 0)) (by rw [List.getElem?_map, List.getElem?_eq_getElem (by omega)]; rfl)
    exact this

/-- A row that stands: whose block is none of these. -/
structure Row3 (T ch : List Nat) (lo : Nat) (v : Value) (n : Nat) (ys : List Value) (w : World) : Prop where
  own : w.ownsRow lo 3 1 v n ys
  nch : ∀ k, v.ownBlock = some k → k ∉ ch ∧ k ∉ T
section
variable {Wg : Nat} {T ch : List Nat} {lo n : Nat} {v : Value} {ys : List Value} {w w₁ : World}
theorem Row3.rely (h : Row3 T ch lo v n ys w) (r : RC (0, false) Wg ch w w₁) : Row3 T ch lo v n ys w₁ := ⟨own_rely h.own (fun k hk => (h.nch k hk).1) r, h.nch⟩
theorem Row3.grows {but : Option Nat} (h : Row3 T ch lo v n ys w) (g : Grows ch but w w₁) (hb : ∀ k, v.ownBlock = some k → some k ≠ but) : Row3 T ch lo v n ys w₁ := ⟨own_grows h.own (fun k hk => ⟨(h.nch k hk).1, hb k hk⟩) g, h.nch⟩
theorem Row3.lt (h : Row3 T ch lo v n ys w) : ∀ k, v.ownBlock = some k → k < w.heap.size := fun k hk => (h.own.lt k hk).2
theorem Row3.ir {a0 : Option Addr} {cap : Nat} {xs : List Int} (h : Row3 T ch lo (.slice a0 n cap) n (xs.map iv) w) (hm : n ≤ 9223372036854775807) : IR ch a0 n xs w := .of_own h.own hm fun k hk => (h.nch k hk).1
end

noncomputable def body11 : Code := Try.f11.body.getD .skip


section
variable (Wg : Nat) (T ch GG : List Nat) (hGc : ∀ b ∈ GG, b ∈ ch) (n : Nat)
include hGc in
set_option maxRecDepth 100000 in
/-- THREE ANSWERS: each is what it must be; spoilt, the others stay. -/
theorem three_c : ∃ q0, ∀ (a0 b0 c0 d0 : Option Addr) (ca cb cc cd la lb lc ld : Nat) (xs : List Int) (w0 : World), (n + 40) * 8 ≤ 140737488355328 → (∀ b ∈ T, b < w0.heap.size) → (∀ b ∈ ch, b < w0.heap.size) →
    Row3 T ch la (.slice a0 n ca) n (xs.map iv) w0 → Row3 T ch lb (.slice b0 n cb) n (xs.map iv) w0 → Row3 T ch lc (.slice c0 n cc) n (xs.map iv) w0 → Row3 T ch ld (.slice d0 n cd) n (xs.map iv) w0 → la ≤ w0.heap.size → lc ≤ w0.heap.size →
    (∀ k, (Value.slice a0 n ca).ownBlock = some k → (Value.slice b0 n cb).ownBlock ≠ some k ∧ (Value.slice c0 n cc).ownBlock ≠ some k ∧ (Value.slice d0 n cd).ownBlock ≠ some k) →
    (∀ k, (Value.slice c0 n cc).ownBlock = some k → (Value.slice b0 n cb).ownBlock ≠ some k ∧ (Value.slice d0 n cd).ownBlock ≠ some k) →
    CallsC Try.prog true (RC (0, false) Wg ch) (DM (0, false) Wg T ch GG) 11 #[.slice a0 n ca, .slice b0 n cb, .slice c0 n cc, .slice d0 n cd] q0 w0 fun v w' => v = .bool true ∧
      ∃ w1 w2, RC (0, false) Wg ch w0 w1 ∧ Grows ch (Value.slice a0 n ca).ownBlock w1 w2 ∧ Grows ch (Value.slice c0 n cc).ownBlock w2 w' := by
  obtain ⟨qs, hsame⟩ := same_c Wg T ch GG hGc n
  obtain ⟨qp, hspoil⟩ := spoil_c Wg T ch GG hGc n
  obtain ⟨qf, hfull⟩ := full_c Wg T ch GG hGc n
  obtain ⟨qg, hfull2⟩ := full_c Wg T ch GG hGc (n + 40)
  refine ⟨11 * ((qs + qp + qf + qg) + 100), fun a0 b0 c0 d0 ca cb cc cd la lb lc ld xs w0 hn8 hT hch hA hB hC hD hla hlc hab hcb => callsC_of_wpC Try.func11 (by simp [Try.f11]) (show Try.f11.body = some body11 by simp [Try.f11, body11]) ?_⟩
  have hF : RC (0, false) Wg ch w0 w0 := RC.refl _ _
  have hmx : n ≤ 9223372036854775807 := by omega
  have e : (#[.slice a0 n ca, .slice b0 n cb, .slice c0 n cc, .slice d0 n cd] : Array Value) ++ Array.replicate (Try.f11.ntmps - (#[.slice a0 n ca, .slice b0 n cb, .slice c0 n cc, .slice d0 n cd] : Array Value).size) undef = #[.slice a0 n ca, .slice b0 n cb, .slice c0 n cc, .slice d0 n cd, undef, undef, undef, undef, undef, undef, undef, undef, undef, undef, undef, undef, undef, undef, undef, undef, undef, undef, undef, undef, undef, undef, undef, undef, undef, undef, undef, undef, undef, undef, undef, undef, undef, undef, undef, undef, undef, undef, undef, undef, undef, undef, undef, undef, undef, undef] := by simp only [Try.f11]; walk_nrm
  rw [e]
  intro b k cs Stop q hb hk hc
  have hfin : ∀ (t : Array Value) (w' : World) (todo : List Item), t.getD 8 undef = .bool true → (∃ w1 w2, RC (0, false) Wg ch w0 w1 ∧ Grows ch (Value.slice a0 n ca).ownBlock w1 w2 ∧ Grows ch (Value.slice c0 n cc).ownBlock w2 w') → Goes Try.prog true (RC (0, false) Wg ch) (DM (0, false) Wg T ch GG) Stop q (G { b.at ⟨t, []⟩ todo with mode := .returning } cs) w' :=
    fun t w' todo h h' => hc .ret ⟨t, []⟩ w' ⟨rfl, _, resultsC_tmp (t := 8) (by simp only [Try.f11]) t, h, h'⟩ todo
  clear hc e
  generalize hQ : qs + qp + qf + qg = Q
  simp only [body11, Try.f11, Option.getD_some]
  (refine Goes.mono (n := (q + 10 * (Q + 100) + qs + 3) + 80) ?_ (by omega))
  repeat (first | (first | ((with_reducible first | refine goes_rend ?_ ?_ | refine goes_sq ?_ ?_ | refine goes_sk ?_ ?_ | refine goes_bl ?_ ?_ | refine goes_lo ?_ ?_ | refine goes_ib ?_ ?_ | refine goes_il ?_ ?_ | refine goes_rt ?_ ?_ | refine goes_en ?_ ?_); exact termsM _ _ _ _ _; intro _ h₁; replace hF := (RC.trans hF) h₁; clear h₁) | (with_reducible refine goes_rg ?_ ?_; exact termsM _ _ _ _ _; intro _ h₁; replace hF := (RC.trans hF) h₁; clear h₁; simp only [List.size_toArray, List.length_cons, List.length_nil, Nat.reduceAdd, Nat.zero_add, List.range, List.range.loop])) | (refine Goes.step rfl (fun w₁ h₁ => ?_); replace hF := (RC.trans hF) h₁; clear h₁; refine goes_oper_k rfl rfl hk (fun K hK => ?_); skip; go_simp; refine hK _ _ ⟨DM_same (fun e he => ?_), ?_⟩; (focus (have hm := mem_listed he; (simp [go_sem, *] at hm); (try (subst hm; exact hv _)))); (clear hK K); (try walk_nrm)))
  (refine Goes.mono (n := q + 10 * (Q + 100) + qs + 3) ?_ (by omega); refine Goes.call (termsM _ _ _ _ _) rfl rfl hk rfl (nf := qs) (by (simp only [List.map_toArray, List.map_cons, List.map_nil, Act.eval, Array.getD_eq_getD_getElem?, List.getElem?_toArray, List.getElem?_cons_succ, List.getElem?_cons_zero, Option.getD_some]); exact hsame a0 d0 ca cd xs _ ((hA.rely hF).ir hmx) ((hD.rely hF).ir hmx)) ?_)
  rintro _ w' ⟨rfl, hr⟩
  replace hF := RC.trans hF hr
  clear hr
  try walk_nrm
  (refine Goes.mono (n := (q + 9 * (Q + 100) + qs + 3) + 80) ?_ (by omega))
  repeat (first | (first | ((with_reducible first | refine goes_rend ?_ ?_ | refine goes_sq ?_ ?_ | refine goes_sk ?_ ?_ | refine goes_bl ?_ ?_ | refine goes_lo ?_ ?_ | refine goes_ib ?_ ?_ | refine goes_il ?_ ?_ | refine goes_rt ?_ ?_ | refine goes_en ?_ ?_); exact termsM _ _ _ _ _; intro _ h₁; replace hF := (RC.trans hF) h₁; clear h₁) | (with_reducible refine goes_rg ?_ ?_; exact termsM _ _ _ _ _; intro _ h₁; replace hF := (RC.trans hF) h₁; clear h₁; simp only [List.size_toArray, List.length_cons, List.length_nil, Nat.reduceAdd, Nat.zero_add, List.range, List.range.loop])) | (refine Goes.step rfl (fun w₁ h₁ => ?_); replace hF := (RC.trans hF) h₁; clear h₁; refine goes_oper_k rfl rfl hk (fun K hK => ?_); skip; go_simp; refine hK _ _ ⟨DM_same (fun e he => ?_), ?_⟩; (focus (have hm := mem_listed he; (simp [go_sem, *] at hm); (try (subst hm; exact hv _)))); (clear hK K); (try walk_nrm)))
  (refine Goes.mono (n := q + 9 * (Q + 100) + qs + 3) ?_ (by omega); refine Goes.call (termsM _ _ _ _ _) rfl rfl hk rfl (nf := qs) (by (simp only [List.map_toArray, List.map_cons, List.map_nil, Act.eval, Array.getD_eq_getD_getElem?, List.getElem?_toArray, List.getElem?_cons_succ, List.getElem?_cons_zero, Option.getD_some]); exact hsame b0 d0 cb cd xs _ ((hB.rely hF).ir hmx) ((hD.rely hF).ir hmx)) ?_)
  rintro _ w' ⟨rfl, hr⟩
  replace hF := RC.trans hF hr
  clear hr
  try walk_nrm
  (refine Goes.mono (n := (q + 8 * (Q + 100) + qs + 3) + 80) ?_ (by omega))
  repeat (first | (first | ((with_reducible first | refine goes_rend ?_ ?_ | refine goes_sq ?_ ?_ | refine goes_sk ?_ ?_ | refine goes_bl ?_ ?_ | refine goes_lo ?_ ?_ | refine goes_ib ?_ ?_ | refine goes_il ?_ ?_ | refine goes_rt ?_ ?_ | refine goes_en ?_ ?_); exact termsM _ _ _ _ _; intro _ h₁; replace hF := (RC.trans hF) h₁; clear h₁) | (with_reducible refine goes_rg ?_ ?_; exact termsM _ _ _ _ _; intro _ h₁; replace hF := (RC.trans hF) h₁; clear h₁; simp only [List.size_toArray, List.length_cons, List.length_nil, Nat.reduceAdd, Nat.zero_add, List.range, List.range.loop])) | (refine Goes.step rfl (fun w₁ h₁ => ?_); replace hF := (RC.trans hF) h₁; clear h₁; refine goes_oper_k rfl rfl hk (fun K hK => ?_); skip; go_simp; refine hK _ _ ⟨DM_same (fun e he => ?_), ?_⟩; (focus (have hm := mem_listed he; (simp [go_sem, *] at hm); (try (subst hm; exact hv _)))); (clear hK K); (try walk_nrm)))
  (refine Goes.mono (n := q + 8 * (Q + 100) + qs + 3) ?_ (by omega); refine Goes.call (termsM _ _ _ _ _) rfl rfl hk rfl (nf := qs) (by (simp only [List.map_toArray, List.map_cons, List.map_nil, Act.eval, Array.getD_eq_getD_getElem?, List.getElem?_toArray, List.getElem?_cons_succ, List.getElem?_cons_zero, Option.getD_some]); exact hsame c0 d0 cc cd xs _ ((hC.rely hF).ir hmx) ((hD.rely hF).ir hmx)) ?_)
  rintro _ w' ⟨rfl, hr⟩
  replace hF := RC.trans hF hr
  clear hr
  try walk_nrm
  (refine Goes.mono (n := (q + 7 * (Q + 100) + qp + 3) + 80) ?_ (by omega))
  repeat (first | (first | ((with_reducible first | refine goes_rend ?_ ?_ | refine goes_sq ?_ ?_ | refine goes_sk ?_ ?_ | refine goes_bl ?_ ?_ | refine goes_lo ?_ ?_ | refine goes_ib ?_ ?_ | refine goes_il ?_ ?_ | refine goes_rt ?_ ?_ | refine goes_en ?_ ?_); exact termsM _ _ _ _ _; intro _ h₁; replace hF := (RC.trans hF) h₁; clear h₁) | (with_reducible refine goes_rg ?_ ?_; exact termsM _ _ _ _ _; intro _ h₁; replace hF := (RC.trans hF) h₁; clear h₁; simp only [List.size_toArray, List.length_cons, List.length_nil, Nat.reduceAdd, Nat.zero_add, List.range, List.range.loop])) | (refine Goes.step rfl (fun w₁ h₁ => ?_); replace hF := (RC.trans hF) h₁; clear h₁; refine goes_oper_k rfl rfl hk (fun K hK => ?_); skip; go_simp; refine hK _ _ ⟨DM_same (fun e he => ?_), ?_⟩; (focus (have hm := mem_listed he; (simp [go_sem, *] at hm); (try (subst hm; exact hv _)))); (clear hK K); (try walk_nrm)))
  (refine goes_cd (termsM (0, false) Wg T ch GG) false rfl (fun _ h₁ => ?_); replace hF := (RC.trans hF) h₁; clear h₁; simp only [if_true, if_false, Bool.false_eq_true, ↓reduceIte])
  repeat (first | (first | ((with_reducible first | refine goes_rend ?_ ?_ | refine goes_sq ?_ ?_ | refine goes_sk ?_ ?_ | refine goes_bl ?_ ?_ | refine goes_lo ?_ ?_ | refine goes_ib ?_ ?_ | refine goes_il ?_ ?_ | refine goes_rt ?_ ?_ | refine goes_en ?_ ?_); exact termsM _ _ _ _ _; intro _ h₁; replace hF := (RC.trans hF) h₁; clear h₁) | (with_reducible refine goes_rg ?_ ?_; exact termsM _ _ _ _ _; intro _ h₁; replace hF := (RC.trans hF) h₁; clear h₁; simp only [List.size_toArray, List.length_cons, List.length_nil, Nat.reduceAdd, Nat.zero_add, List.range, List.range.loop])) | (refine Goes.step rfl (fun w₁ h₁ => ?_); replace hF := (RC.trans hF) h₁; clear h₁; refine goes_oper_k rfl rfl hk (fun K hK => ?_); skip; go_simp; refine hK _ _ ⟨DM_same (fun e he => ?_), ?_⟩; (focus (have hm := mem_listed he; (simp [go_sem, *] at hm); (try (subst hm; exact hv _)))); (clear hK K); (try walk_nrm)))
  have hF1 := hF
  have hlch : ∀ {lo : Nat} {v : Value} {ys : List Value} {w : World}, Row3 T ch lo v n ys w → w.heap.size = w.heap.size → ∀ k, v.ownBlock = some k → k ∉ ch ∧ k ∉ T ∧ k < w.heap.size := fun h _ k hk => ⟨(h.nch k hk).1, (h.nch k hk).2, h.lt k hk⟩
  have hs1 := hF1.size
  (refine Goes.mono (n := q + 7 * (Q + 100) + qp + 3) ?_ (by omega); refine Goes.call (termsM _ _ _ _ _) rfl rfl hk rfl (nf := qp) (by (simp only [List.map_toArray, List.map_cons, List.map_nil, Act.eval, Array.getD_eq_getD_getElem?, List.getElem?_toArray, List.getElem?_cons_succ, List.getElem?_cons_zero, Option.getD_some]); exact hspoil a0 ca (-71) la (xs.map iv) _ (hA.rely hF1).own (by omega) hn8 (fun b hb => by have := hT b hb; omega) (fun b hb => by have := hch b hb; omega) (hlch (hA.rely hF1) rfl)) ?_)
  intro x w' hK
  obtain ⟨gx, cx, rfl⟩ : ∃ gx cx, x = .slice (some ⟨gx, 0, none⟩) (n + 40) cx := by
    rcases hK.own.2 with ⟨_, h0⟩ | ⟨g, cp, cur, h0, _⟩
    · simp at h0
    · exact ⟨g, cp, by rw [h0]; simp⟩
  clear hF
  have hF := hK
  clear hK
  try walk_nrm
  (refine Goes.mono (n := (q + 6 * (Q + 100) + qp + 3) + 80) ?_ (by omega))
  repeat (first | (first | ((with_reducible first | refine goes_rend ?_ ?_ | refine goes_sq ?_ ?_ | refine goes_sk ?_ ?_ | refine goes_bl ?_ ?_ | refine goes_lo ?_ ?_ | refine goes_ib ?_ ?_ | refine goes_il ?_ ?_ | refine goes_rt ?_ ?_ | refine goes_en ?_ ?_); exact termsM _ _ _ _ _; intro _ h₁; replace hF := (KG.rely hF) h₁; clear h₁) | (with_reducible refine goes_rg ?_ ?_; exact termsM _ _ _ _ _; intro _ h₁; replace hF := (KG.rely hF) h₁; clear h₁; simp only [List.size_toArray, List.length_cons, List.length_nil, Nat.reduceAdd, Nat.zero_add, List.range, List.range.loop])) | (refine Goes.step rfl (fun w₁ h₁ => ?_); replace hF := (KG.rely hF) h₁; clear h₁; refine goes_oper_k rfl rfl hk (fun K hK => ?_); skip; go_simp; refine hK _ _ ⟨DM_same (fun e he => ?_), ?_⟩; (focus (have hm := mem_listed he; (simp [go_sem, *] at hm); (try (subst hm; exact hv _)))); (clear hK K); (try walk_nrm)))
  have hK1 := hF
  have hs2 := hK1.g.size
  have hC2 := (hC.rely hF1).grows hK1.g (fun k hk e => (hab k e.symm).2.1 hk)
  have hB2 := (hB.rely hF1).grows hK1.g (fun k hk e => (hab k e.symm).1 hk)
  have hD2 := (hD.rely hF1).grows hK1.g (fun k hk e => (hab k e.symm).2.2 hk)
  have hcl1 := (hC.rely hF1).lt
  (refine Goes.mono (n := q + 6 * (Q + 100) + qp + 3) ?_ (by omega); refine Goes.call (termsM _ _ _ _ _) rfl rfl hk rfl (nf := qp) (by (simp only [List.map_toArray, List.map_cons, List.map_nil, Act.eval, Array.getD_eq_getD_getElem?, List.getElem?_toArray, List.getElem?_cons_succ, List.getElem?_cons_zero, Option.getD_some]); exact hspoil c0 cc (-72) lc (xs.map iv) _ hC2.own (by omega) hn8 (fun b hb => by have := hT b hb; omega) (fun b hb => by have := hch b hb; omega) (hlch hC2 rfl)) ?_)
  intro y w' hK
  obtain ⟨gy, cy, rfl⟩ : ∃ gy cy, y = .slice (some ⟨gy, 0, none⟩) (n + 40) cy := by
    rcases hK.own.2 with ⟨_, h0⟩ | ⟨g, cp, cur, h0, _⟩
    · simp at h0
    · exact ⟨g, cp, by rw [h0]; simp⟩
  clear hF
  have hF := hK
  clear hK
  have rep : ∀ (mk : Int) (l : Nat), List.replicate l (iv mk) = (List.replicate l mk).map iv := fun mk l => by rw [List.map_replicate]
  have mks : ∀ (mk : Int) (l j : Nat), j < l → (List.replicate l mk)[j]?.getD 0 = mk := fun mk l j hj => by simp [hj]
  -- what is known of the six lists from here on
  have rB : ∀ w, KG T ch _ lc (.slice c0 n cc) n (-72) (.slice (some ⟨gy, 0, none⟩) (n + 40) cy) 40 w → IR ch b0 n xs w := fun w h => (hB2.grows h.g (fun k hk e => (hcb k e.symm).1 hk)).ir hmx
  have rD : ∀ w, KG T ch _ lc (.slice c0 n cc) n (-72) (.slice (some ⟨gy, 0, none⟩) (n + 40) cy) 40 w → IR ch d0 n xs w := fun w h => (hD2.grows h.g (fun k hk e => (hcb k e.symm).2 hk)).ir hmx
  have rA : ∀ w, KG T ch _ lc (.slice c0 n cc) n (-72) (.slice (some ⟨gy, 0, none⟩) (n + 40) cy) 40 w → IR ch a0 n (List.replicate n (-71)) w := fun w h =>
    .of_own (by rw [← rep]; exact own_grows hK1.old (fun k hk => ⟨(hK1.lch k hk).1, fun e => (hab k hk).2.1 e.symm⟩) h.g) hmx (fun k hk => (hK1.lch k hk).1)
  have rC : ∀ w3 w, KG T ch w3 lc (.slice c0 n cc) n (-72) (.slice (some ⟨gy, 0, none⟩) (n + 40) cy) 40 w → IR ch c0 n (List.replicate n (-72)) w := fun _ w h => .of_own (by rw [← rep]; exact h.old) hmx (fun k hk => (h.lch k hk).1)
  have rY : ∀ w3 w, KG T ch w3 lc (.slice c0 n cc) n (-72) (.slice (some ⟨gy, 0, none⟩) (n + 40) cy) 40 w → IR ch (some ⟨gy, 0, none⟩) (n + 40) (List.replicate (n + 40) (-72)) w := fun _ w h => .of_own (by rw [← rep]; simpa using h.own) (by omega) (fun k hk => (h.nch k hk).1)
  have hxc : some gx ≠ (Value.slice c0 n cc).ownBlock := by
    intro e
    have hlt := hcl1 gx e.symm
    rcases hK1.how with ⟨g, cap, h1, h2⟩ | ⟨k, h1, h2⟩ | h1
    · cases h2
      exact (hab gx (by rw [h1]; rfl)).2.1 e.symm
    · have h1 : gx = k := Option.some.inj h1
      omega
    · cases h1
  have rX : ∀ w, KG T ch _ lc (.slice c0 n cc) n (-72) (.slice (some ⟨gy, 0, none⟩) (n + 40) cy) 40 w → IR ch (some ⟨gx, 0, none⟩) (n + 40) (List.replicate (n + 40) (-71)) w := fun w h =>
    .of_own (by rw [← rep]; have := own_grows hK1.own (fun k hk => ⟨(hK1.nch k hk).1, by cases hk; exact hxc⟩) h.g; simpa using this) (by omega) (fun k hk => (hK1.nch k hk).1)
  try walk_nrm
  (refine Goes.mono (n := (q + 5 * (Q + 100) + qs + 3) + 80) ?_ (by omega))
  repeat (first | (first | ((with_reducible first | refine goes_rend ?_ ?_ | refine goes_sq ?_ ?_ | refine goes_sk ?_ ?_ | refine goes_bl ?_ ?_ | refine goes_lo ?_ ?_ | refine goes_ib ?_ ?_ | refine goes_il ?_ ?_ | refine goes_rt ?_ ?_ | refine goes_en ?_ ?_); exact termsM _ _ _ _ _; intro _ h₁; replace hF := (KG.rely hF) h₁; clear h₁) | (with_reducible refine goes_rg ?_ ?_; exact termsM _ _ _ _ _; intro _ h₁; replace hF := (KG.rely hF) h₁; clear h₁; simp only [List.size_toArray, List.length_cons, List.length_nil, Nat.reduceAdd, Nat.zero_add, List.range, List.range.loop])) | (refine Goes.step rfl (fun w₁ h₁ => ?_); replace hF := (KG.rely hF) h₁; clear h₁; refine goes_oper_k rfl rfl hk (fun K hK => ?_); skip; go_simp; refine hK _ _ ⟨DM_same (fun e he => ?_), ?_⟩; (focus (have hm := mem_listed he; (simp [go_sem, *] at hm); (try (subst hm; exact hv _)))); (clear hK K); (try walk_nrm)))
  (refine Goes.mono (n := q + 5 * (Q + 100) + qs + 3) ?_ (by omega); refine Goes.call (termsM _ _ _ _ _) rfl rfl hk rfl (nf := qs) (by (simp only [List.map_toArray, List.map_cons, List.map_nil, Act.eval, Array.getD_eq_getD_getElem?, List.getElem?_toArray, List.getElem?_cons_succ, List.getElem?_cons_zero, Option.getD_some]); exact hsame b0 d0 cb cd xs _ (rB _ hF) (rD _ hF)) ?_)
  rintro _ w' ⟨rfl, hr⟩
  replace hF := KG.rely hF hr
  clear hr
  try walk_nrm
  (refine Goes.mono (n := (q + 4 * (Q + 100) + qg + 3) + 80) ?_ (by omega))
  repeat (first | (first | ((with_reducible first | refine goes_rend ?_ ?_ | refine goes_sq ?_ ?_ | refine goes_sk ?_ ?_ | refine goes_bl ?_ ?_ | refine goes_lo ?_ ?_ | refine goes_ib ?_ ?_ | refine goes_il ?_ ?_ | refine goes_rt ?_ ?_ | refine goes_en ?_ ?_); exact termsM _ _ _ _ _; intro _ h₁; replace hF := (KG.rely hF) h₁; clear h₁) | (with_reducible refine goes_rg ?_ ?_; exact termsM _ _ _ _ _; intro _ h₁; replace hF := (KG.rely hF) h₁; clear h₁; simp only [List.size_toArray, List.length_cons, List.length_nil, Nat.reduceAdd, Nat.zero_add, List.range, List.range.loop])) | (refine Goes.step rfl (fun w₁ h₁ => ?_); replace hF := (KG.rely hF) h₁; clear h₁; refine goes_oper_k rfl rfl hk (fun K hK => ?_); skip; go_simp; refine hK _ _ ⟨DM_same (fun e he => ?_), ?_⟩; (focus (have hm := mem_listed he; (simp [go_sem, *] at hm); (try (subst hm; exact hv _)))); (clear hK K); (try walk_nrm)))
  (refine Goes.mono (n := q + 4 * (Q + 100) + qg + 3) ?_ (by omega); refine Goes.call (termsM _ _ _ _ _) rfl rfl hk rfl (nf := qg) (by (simp only [List.map_toArray, List.map_cons, List.map_nil, Act.eval, Array.getD_eq_getD_getElem?, List.getElem?_toArray, List.getElem?_cons_succ, List.getElem?_cons_zero, Option.getD_some]); exact hfull2 _ cx (-71) _ _ (rX _ hF) (mks _ _)) ?_)
  rintro _ w' ⟨rfl, hr⟩
  replace hF := KG.rely hF hr
  clear hr
  try walk_nrm
  (refine Goes.mono (n := (q + 3 * (Q + 100) + qg + 3) + 80) ?_ (by omega))
  repeat (first | (first | ((with_reducible first | refine goes_rend ?_ ?_ | refine goes_sq ?_ ?_ | refine goes_sk ?_ ?_ | refine goes_bl ?_ ?_ | refine goes_lo ?_ ?_ | refine goes_ib ?_ ?_ | refine goes_il ?_ ?_ | refine goes_rt ?_ ?_ | refine goes_en ?_ ?_); exact termsM _ _ _ _ _; intro _ h₁; replace hF := (KG.rely hF) h₁; clear h₁) | (with_reducible refine goes_rg ?_ ?_; exact termsM _ _ _ _ _; intro _ h₁; replace hF := (KG.rely hF) h₁; clear h₁; simp only [List.size_toArray, List.length_cons, List.length_nil, Nat.reduceAdd, Nat.zero_add, List.range, List.range.loop])) | (refine Goes.step rfl (fun w₁ h₁ => ?_); replace hF := (KG.rely hF) h₁; clear h₁; refine goes_oper_k rfl rfl hk (fun K hK => ?_); skip; go_simp; refine hK _ _ ⟨DM_same (fun e he => ?_), ?_⟩; (focus (have hm := mem_listed he; (simp [go_sem, *] at hm); (try (subst hm; exact hv _)))); (clear hK K); (try walk_nrm)))
  (refine Goes.mono (n := q + 3 * (Q + 100) + qg + 3) ?_ (by omega); refine Goes.call (termsM _ _ _ _ _) rfl rfl hk rfl (nf := qg) (by (simp only [List.map_toArray, List.map_cons, List.map_nil, Act.eval, Array.getD_eq_getD_getElem?, List.getElem?_toArray, List.getElem?_cons_succ, List.getElem?_cons_zero, Option.getD_some]); exact hfull2 _ cy (-72) _ _ (rY _ _ hF) (mks _ _)) ?_)
  rintro _ w' ⟨rfl, hr⟩
  replace hF := KG.rely hF hr
  clear hr
  try walk_nrm
  (refine Goes.mono (n := (q + 2 * (Q + 100) + qf + 3) + 80) ?_ (by omega))
  repeat (first | (first | ((with_reducible first | refine goes_rend ?_ ?_ | refine goes_sq ?_ ?_ | refine goes_sk ?_ ?_ | refine goes_bl ?_ ?_ | refine goes_lo ?_ ?_ | refine goes_ib ?_ ?_ | refine goes_il ?_ ?_ | refine goes_rt ?_ ?_ | refine goes_en ?_ ?_); exact termsM _ _ _ _ _; intro _ h₁; replace hF := (KG.rely hF) h₁; clear h₁) | (with_reducible refine goes_rg ?_ ?_; exact termsM _ _ _ _ _; intro _ h₁; replace hF := (KG.rely hF) h₁; clear h₁; simp only [List.size_toArray, List.length_cons, List.length_nil, Nat.reduceAdd, Nat.zero_add, List.range, List.range.loop])) | (refine Goes.step rfl (fun w₁ h₁ => ?_); replace hF := (KG.rely hF) h₁; clear h₁; refine goes_oper_k rfl rfl hk (fun K hK => ?_); skip; go_simp; refine hK _ _ ⟨DM_same (fun e he => ?_), ?_⟩; (focus (have hm := mem_listed he; (simp [go_sem, *] at hm); (try (subst hm; exact hv _)))); (clear hK K); (try walk_nrm)))
  (refine Goes.mono (n := q + 2 * (Q + 100) + qf + 3) ?_ (by omega); refine Goes.call (termsM _ _ _ _ _) rfl rfl hk rfl (nf := qf) (by (simp only [List.map_toArray, List.map_cons, List.map_nil, Act.eval, Array.getD_eq_getD_getElem?, List.getElem?_toArray, List.getElem?_cons_succ, List.getElem?_cons_zero, Option.getD_some]); exact hfull _ ca (-71) _ _ (rA _ hF) (mks _ _)) ?_)
  rintro _ w' ⟨rfl, hr⟩
  replace hF := KG.rely hF hr
  clear hr
  try walk_nrm
  (refine Goes.mono (n := (q + 1 * (Q + 100) + qf + 3) + 80) ?_ (by omega))
  repeat (first | (first | ((with_reducible first | refine goes_rend ?_ ?_ | refine goes_sq ?_ ?_ | refine goes_sk ?_ ?_ | refine goes_bl ?_ ?_ | refine goes_lo ?_ ?_ | refine goes_ib ?_ ?_ | refine goes_il ?_ ?_ | refine goes_rt ?_ ?_ | refine goes_en ?_ ?_); exact termsM _ _ _ _ _; intro _ h₁; replace hF := (KG.rely hF) h₁; clear h₁) | (with_reducible refine goes_rg ?_ ?_; exact termsM _ _ _ _ _; intro _ h₁; replace hF := (KG.rely hF) h₁; clear h₁; simp only [List.size_toArray, List.length_cons, List.length_nil, Nat.reduceAdd, Nat.zero_add, List.range, List.range.loop])) | (refine Goes.step rfl (fun w₁ h₁ => ?_); replace hF := (KG.rely hF) h₁; clear h₁; refine goes_oper_k rfl rfl hk (fun K hK => ?_); skip; go_simp; refine hK _ _ ⟨DM_same (fun e he => ?_), ?_⟩; (focus (have hm := mem_listed he; (simp [go_sem, *] at hm); (try (subst hm; exact hv _)))); (clear hK K); (try walk_nrm)))
  (refine Goes.mono (n := q + 1 * (Q + 100) + qf + 3) ?_ (by omega); refine Goes.call (termsM _ _ _ _ _) rfl rfl hk rfl (nf := qf) (by (simp only [List.map_toArray, List.map_cons, List.map_nil, Act.eval, Array.getD_eq_getD_getElem?, List.getElem?_toArray, List.getElem?_cons_succ, List.getElem?_cons_zero, Option.getD_some]); exact hfull _ cc (-72) _ _ (rC _ _ hF) (mks _ _)) ?_)
  rintro _ w' ⟨rfl, hr⟩
  replace hF := KG.rely hF hr
  clear hr
  try walk_nrm
  refine Goes.mono (n := q + 80) ?_ (by omega)
  repeat (first | (first | ((with_reducible first | refine goes_rend ?_ ?_ | refine goes_sq ?_ ?_ | refine goes_sk ?_ ?_ | refine goes_bl ?_ ?_ | refine goes_lo ?_ ?_ | refine goes_ib ?_ ?_ | refine goes_il ?_ ?_ | refine goes_rt ?_ ?_ | refine goes_en ?_ ?_); exact termsM _ _ _ _ _; intro _ h₁; replace hF := (KG.rely hF) h₁; clear h₁) | (with_reducible refine goes_rg ?_ ?_; exact termsM _ _ _ _ _; intro _ h₁; replace hF := (KG.rely hF) h₁; clear h₁; simp only [List.size_toArray, List.length_cons, List.length_nil, Nat.reduceAdd, Nat.zero_add, List.range, List.range.loop])) | (refine Goes.step rfl (fun w₁ h₁ => ?_); replace hF := (KG.rely hF) h₁; clear h₁; refine goes_oper_k rfl rfl hk (fun K hK => ?_); skip; go_simp; refine hK _ _ ⟨DM_same (fun e he => ?_), ?_⟩; (focus (have hm := mem_listed he; (simp [go_sem, *] at hm); (try (subst hm; exact hv _)))); (clear hK K); (try walk_nrm)))
  refine Goes.mono (n := q) ?_ (by omega)
  exact hfin _ _ _ rfl ⟨_, _, hF1, hK1.g, hF.g⟩
end
end Go.Proofs.Ytplndihadjfliaa.Mix
/-
  CREW: the walk of crew.Merge: goroutine 0 starts the senders, takes by turns, closes, waits.
-/
set_option linter.unusedSimpArgs false
set_option linter.unusedVariables false
set_option maxHeartbeats 4000000
namespace Go.Proofs.Ytplndihadjfliaa.Mix
open Go Go.Conc Go.ConcN Go.Proofs Go.RowKit
open Go.ConcR (KK wgBlock WgAt stA smA rd wr mk)

noncomputable def body14 : Code := Try.f14.body.getD .skip
noncomputable def t14a : Code := match body14 with | .seq _ (.seq _ r) => r | _ => .skip
noncomputable def ops14a : Array Oper := match t14a with | .seq (.region _ ops _) _ => ops | _ => #[]
noncomputable def t14b : Code := match t14a with | .seq _ r => r | _ => .skip
noncomputable def ops14b : Array Oper := match t14b with | .seq (.region _ ops _) _ => ops | _ => #[]
noncomputable def t14c : Code := match t14b with | .seq _ r => r | _ => .skip
noncomputable def L14a : Code := match t14c with | .seq _ (.seq (.seq _ (.block _ (.loop c))) _) => c | _ => .skip
noncomputable def rest14 : Code := match t14c with | .seq _ (.seq _ r) => r | _ => .skip
noncomputable def L14b : Code := match rest14 with | .seq _ (.seq (.seq _ (.block _ (.loop c))) _) => c | _ => .skip
noncomputable def end14 : Code := match rest14 with | .seq _ (.seq _ r) => r | _ => .skip
noncomputable def B14a : Code := match L14a with | .seq _ (.seq _ (.seq (.block _ c) _)) => c | _ => .skip
noncomputable def A14 : Code := match B14a with | .seq _ (.seq _ r) => r | _ => .skip
noncomputable def ops14c : Array Oper := match A14 with | .seq (.region _ ops _) _ => ops | _ => #[]
noncomputable def G14 : Code := match A14 with | .seq _ r => r | _ => .skip
noncomputable def ops14g : Array Oper := match G14 with | .region _ ops _ => ops | _ => #[]
noncomputable def R14a : Code := match L14a with | .seq _ (.seq _ (.seq _ r)) => r | _ => .skip
noncomputable def B14b : Code := match L14b with | .seq _ (.seq _ (.seq (.block _ c) _)) => c | _ => .skip
noncomputable def V14 : Code := match B14b with | .seq _ (.seq _ r) => r | _ => .skip
noncomputable def ops14r : Array Oper := match V14 with | .seq (.region _ ops _) _ => ops | _ => #[]
noncomputable def V14r : Code := match V14 with | .seq _ r => r | _ => .skip
noncomputable def R14b : Code := match L14b with | .seq _ (.seq _ (.seq _ r)) => r | _ => .skip
noncomputable def ops14x : Array Oper := match end14 with | .seq (.region _ ops _) _ => ops | _ => #[]
noncomputable def E14 : Code := match end14 with | .seq _ r => r | _ => .skip
noncomputable def ops14w : Array Oper := match E14 with | .seq (.region _ ops _) _ => ops | _ => #[]
noncomputable def E14r : Code := match E14 with | .seq _ r => r | _ => .skip

/-- The channels: the group's block, 'stop', then one a sender. -/
def chM (N : Nat) (ch : List Nat) : Nat → List Nat
  | 0 => (N + 1) :: N :: ch
  | k + 1 => (N + 3 + k) :: chM N ch k
theorem chM_mem {N : Nat} {ch : List Nat} : ∀ {k c : Nat}, c ∈ chM N ch k → c ∈ ch ∨ c = N ∨ c = N + 1 ∨ (N + 3 ≤ c ∧ c < N + 3 + k)
  | 0, c, h => by
    simp only [chM, List.mem_cons] at h
    rcases h with h | h | h
    · exact .inr (.inr (.inl h))
    · exact .inr (.inl h)
    · exact .inl h
  | k + 1, c, h => by
    rcases List.mem_cons.1 h with h | h
    · exact .inr (.inr (.inr (by omega)))
    · rcases chM_mem h with h | h | h | h
      · exact .inl h
      · exact .inr (.inl h)
      · exact .inr (.inr (.inl h))
      · exact .inr (.inr (.inr (by omega)))
theorem chM_N {N : Nat} {ch : List Nat} : ∀ k, N ∈ chM N ch k
  | 0 => by simp [chM]
  | k + 1 => by simp only [chM, List.mem_cons]; exact .inr (chM_N k)
theorem chM_s {N : Nat} {ch : List Nat} : ∀ k, N + 1 ∈ chM N ch k
  | 0 => by simp [chM]
  | k + 1 => by simp only [chM, List.mem_cons]; exact .inr (chM_s k)
theorem chM_old {N : Nat} {ch : List Nat} {c : Nat} (h : c ∈ ch) : ∀ k, c ∈ chM N ch k
  | 0 => by simp [chM, h]
  | k + 1 => by simp only [chM, List.mem_cons]; exact .inr (chM_old h k)

/-- WHAT GOROUTINE 0 KNOWS OF THE WORLD in Merge. W: the world at the call's entry, of N blocks; m senders' channels lie in the list; lo: where what it makes itself begins. -/
structure MK (N : Nat) (W : World) (ch : List Nat) (M m lo : Nat) (out : Value) (xs : List Value) (w : World) : Prop where
  os : w.os = W.os
  tape : w.tape = W.tape
  output : w.output = W.output
  lo3 : N + 3 + m ≤ lo
  size : lo ≤ w.heap.size
  old : ∀ b, b < N → b ∉ ch → w.heap[b]? = W.heap[b]?
  chN : ∀ c ∈ ch, c < N
  lv : WgLive 47 N w
  sd : ∃ vs : Array Value, vs.size = M ∧ w.heap[N + 2]? = some (.cells vs 33) ∧ ∀ p, p < m → vs[p]? = some (.chan (some (N + 3 + p)))
  own : w.ownsRow lo 3 1 out xs.length xs

section
variable {N : Nat} {W : World} {ch : List Nat} {M m lo : Nat} {out : Value} {xs : List Value} {w w₁ : World}
theorem MK.rely {ch' : List Nat} {k : Nat} (hc : ∀ c ∈ ch', c ∈ ch ∨ c = N ∨ c = N + 1 ∨ (N + 3 ≤ c ∧ c < N + 3 + k)) (hk : N + 3 + k ≤ lo) (h : MK N W ch M m lo out xs w) (r : RC (47, true) N ch' w w₁) : MK N W ch M m lo out xs w₁ := by
  have hchN := h.chN
  have hl := h.lo3
  have hb : ∀ b, b < N → b ∉ ch → b ∉ ch' := fun b h1 h2 h3 => by rcases hc b h3 with h4 | h4 | h4 | h4 <;> first | exact h2 h4 | omega
  have h2 : N + 2 ∉ ch' := fun h3 => by rcases hc _ h3 with h4 | h4 | h4 | h4 <;> first | (have := hchN _ h4; omega) | omega
  obtain ⟨vs, s1, s2, s3⟩ := h.sd
  refine ⟨r.os.trans h.os, r.tape.trans h.tape, r.output.trans h.output, h.lo3, by rw [r.size]; exact h.size, fun b h1 h2 => (r.block b (hb b h1 h2)).trans (h.old b h1 h2), h.chN, r.live rfl h.lv, ⟨vs, s1, (r.block _ h2).trans s2, s3⟩, h.own.1, ?_⟩
  rcases h.own.2 with h0 | ⟨g, cp, cur, e, hg, hh, x⟩
  · exact .inl h0
  · exact .inr ⟨g, cp, cur, e, hg, (r.block g fun h3 => by rcases hc g h3 with h4 | h4 | h4 | h4 <;> first | (have := hchN _ h4; omega) | omega).trans hh, x⟩
/-- Reads of what was there. -/
theorem MK.cellOld (h : MK N W ch M m lo out xs w) {a : Addr} (h1 : a.block < N) (h2 : a.block ∉ ch) : w.cell? a = W.cell? a := World.cell?_of_block (h.old _ h1 h2)
theorem MK.evOld {T GG : List Nat} (hG : ∀ b ∈ GG, b ∈ ch) (h : MK N W ch M m lo out xs w) {a : Addr} (h1 : a.block < N) (h2 : a.block ∉ ch) (s : Bool) : EvM T (N :: GG) w.heap.size ⟨.cell a, false, s⟩ :=
  evM_rd _ _ (fun hb => by rcases List.mem_cons.1 hb with hb | hb; omega; exact h2 (hG _ hb)) (by have := h.size; have := h.lo3; omega)
theorem MK.sdCell (h : MK N W ch M m lo out xs w) {p : Nat} (hp : p < m) : w.cell? ⟨N + 2, p, none⟩ = some (.chan (some (N + 3 + p))) := by
  obtain ⟨vs, s1, s2, s3⟩ := h.sd
  rw [← s3 p hp]
  exact cell_of_row w (N + 2) p vs 33 (0, 0) s2
theorem MK.sdHas (h : MK N W ch M m lo out xs w) {p : Nat} (hp : p < M) : ∃ v, w.cell? ⟨N + 2, p, none⟩ = some v := by
  obtain ⟨vs, s1, s2, s3⟩ := h.sd
  exact ⟨vs[p]'(by omega), (cell_of_row w (N + 2) p vs 33 (0, 0) s2).trans (Array.getElem?_eq_getElem _)⟩
theorem MK.sdThaw (h : MK N W ch M m lo out xs w) (p : Nat) : w.frozen? ⟨N + 2, p, none⟩ = false := by
  obtain ⟨vs, s1, s2, s3⟩ := h.sd
  exact frozen_of_row w (N + 2) p vs 33 s2
theorem MK.evSd {T GG : List Nat} (hG : ∀ b ∈ GG, b ∈ ch) (hT : ∀ b ∈ T, b < N) (h : MK N W ch M m lo out xs w) (p : Nat) (x s : Bool) : EvM T (N :: GG) w.heap.size ⟨.cell ⟨N + 2, p, none⟩, x, s⟩ :=
  evM_wr _ _ _ (fun hb => by have := hT _ hb; simp only at this; omega) (fun hb => by rcases List.mem_cons.1 hb with hb | hb; (simp only at hb; omega); have := h.chN _ (hG _ hb); simp only at this; omega) (by have := h.size; have := h.lo3; simp only; omega)

/-- m senders are started. -/
structure MZ (N : Nat) (W : World) (ch : List Nat) (M m : Nat) (w : World) : Prop where
  kn : MK N W ch M m (N + 3 + m) (.slice none 0 0) [] w
  sz : w.heap.size = N + 3 + m
/-- .. the next one's channel is made. -/
structure MF (N : Nat) (W : World) (ch : List Nat) (M m k : Nat) (w : World) : Prop where
  kn : MK N W ch M m (N + 3 + (k + 1)) (.slice none 0 0) [] w
  sz : w.heap.size = N + 3 + (k + 1)
  chn : ∃ s r tm, w.heap[N + 3 + k]? = some (.chan 0 #[] false s r tm)
theorem MZ.rely {ch' : List Nat} (hc : ∀ c ∈ ch', c ∈ ch ∨ c = N ∨ c = N + 1 ∨ (N + 3 ≤ c ∧ c < N + 3 + m)) (h : MZ N W ch M m w) (r : RC (47, true) N ch' w w₁) : MZ N W ch M m w₁ := ⟨h.kn.rely hc (Nat.le_refl _) r, r.size.trans h.sz⟩
theorem MF.rely {ch' : List Nat} {k : Nat} (hc : ∀ c ∈ ch', c ∈ ch ∨ c = N ∨ c = N + 1 ∨ (N + 3 ≤ c ∧ c < N + 3 + k)) (h : MF N W ch M m k w) (r : RC (47, true) N ch' w w₁) : MF N W ch M m k w₁ := by
  obtain ⟨s, r', tm, hcn⟩ := h.chn
  have hchN := h.kn.chN
  refine ⟨h.kn.rely hc (by omega) r, r.size.trans h.sz, s, r', tm, (r.block _ fun h3 => ?_).trans hcn⟩
  rcases hc _ h3 with h4 | h4 | h4 | h4 <;> first | (have := hchN _ h4; omega) | omega
theorem MZ.made (h : MZ N W ch M m w) (s r : Nat) (tm : Bool) : MF N W ch M m m (w.alloc (.chan 0 #[] false s r tm)) := by
  have hb : Below (N + 3 + m) w (w.alloc (.chan 0 #[] false s r tm)) := (Below.refl _ _).alloc (by rw [h.sz]; exact Nat.le_refl _) _
  obtain ⟨vs, s1, s2, s3⟩ := h.kn.sd
  obtain ⟨st, sm, hlv⟩ := h.kn.lv
  exact ⟨⟨hb.os.trans h.kn.os, hb.tape.trans h.kn.tape, hb.output.trans h.kn.output, by omega, by simp [h.sz]; omega, fun b h1 h2 => (hb.block b (by omega)).trans (h.kn.old b h1 h2), h.kn.chN, ⟨st, sm, hlv.of_block (hb.block N (by omega))⟩, ⟨vs, s1, (hb.block _ (by omega)).trans s2, s3⟩, World.ownsRow_nil _ _ _ _⟩, by simp [h.sz]; omega, s, r, tm, by rw [← h.sz]; exact heap_alloc_new w _⟩
theorem MF.set (h : MF N W ch M m m w) (hm : m < M) : MF N W ch M (m + 1) m (w.setCell ⟨N + 2, m, none⟩ (.chan (some (N + 3 + m)))) := by
  obtain ⟨vs, s1, s2, s3⟩ := h.kn.sd
  obtain ⟨s, r, tm, hcn⟩ := h.chn
  obtain ⟨st, sm, hlv⟩ := h.kn.lv
  have ho : ∀ b, b ≠ N + 2 → (w.setCell ⟨N + 2, m, none⟩ (.chan (some (N + 3 + m)))).heap[b]? = w.heap[b]? := fun b hb => heap_setCell_other w ⟨N + 2, m, none⟩ b _ hb
  refine ⟨⟨h.kn.os, h.kn.tape, h.kn.output, by omega, by rw [setCell_size]; exact h.kn.size, fun b h1 h2 => (ho b (by omega)).trans (h.kn.old b h1 h2), h.kn.chN, ⟨st, sm, hlv.of_block (ho N (by omega))⟩, ⟨vs.setIfInBounds m (.chan (some (N + 3 + m))), by simpa using s1, heap_setCell_same w (N + 2) m vs 33 _ s2, fun p hp => ?_⟩, World.ownsRow_nil _ _ _ _⟩, by rw [setCell_size]; exact h.sz, s, r, tm, (ho _ (by omega)).trans hcn⟩
  by_cases e : p = m
  · subst e; rw [Array.getElem?_setIfInBounds_self_of_lt (by omega)]
  · rw [Array.getElem?_setIfInBounds_ne (fun x => e x.symm)]; exact s3 p (by omega)
theorem MF.next (h : MF N W ch M (m + 1) m w) : MZ N W ch M (m + 1) w := ⟨h.kn, h.sz⟩
end

end Go.Proofs.Ytplndihadjfliaa.Mix
