/-
  CREW: the law's small functions, in company: ints, spoil.
-/
import Derived.Test.YtplndihadjfliaaM10
set_option linter.unusedSimpArgs false
set_option linter.unusedVariables false
set_option maxHeartbeats 2000000
namespace Go.Proofs.Ytplndihadjfliaa.Mix
open Go Go.Conc Go.ConcN Go.Proofs Go.RowKit

noncomputable def body10 : Code := Try.f10.body.getD .skip
noncomputable def body21 : Code := Try.f21.body.getD .skip
noncomputable def L21a : Code := match body21 with | .seq _ (.seq (.seq _ (.block _ (.loop c))) _) => c | _ => .skip
noncomputable def rest21 : Code := match body21 with | .seq _ (.seq _ r) => r | _ => .skip
noncomputable def L21b : Code := match rest21 with | .seq (.seq _ (.block _ (.loop c))) _ => c | _ => .skip
noncomputable def end21 : Code := match rest21 with | .seq _ r => r | _ => .skip

/-- An append to nothing. -/
theorem app_nil {w : World} (ty : TypeId) {a0 : Option Addr} {n cap0 : Nat} {xs : List Int} {ch : List Nat} (hA : IR ch a0 n xs w) (hc0 : a0 = none → cap0 = 0) (hn8 : n * 8 ≤ 140737488355328) :
    (∃ v' w', (Builtin.append_ #[22, 22] ty #[.slice none 0 0, .slice a0 n cap0]).run Try.prog w = .ok v' w' ∧ w'.ownsRow w.heap.size 3 1 v' n (xs.map iv) ∧ w.grownBy w' none) ∧
    ∀ ev ∈ (Builtin.append_ #[22, 22] ty #[.slice none 0 0, .slice a0 n cap0]).events Try.prog w #[], (∃ ad, ev.loc = .cell ad ∧ ev.write = false ∧ 0 < n ∧ ∃ a, a0 = some a ∧ ad.block = a.block) ∨ ∃ m, ev = ⟨.mark m, false, true⟩ ∧ Conc.Neutral m := by
  obtain ⟨i0, hi, hz0, hz1, hz2⟩ := info_parts Try.info3
  have hl := hA.len
  cases a0 with
  | none =>
    have hn : n = 0 := by
      rcases Nat.eq_zero_or_pos n with h | h
      · exact h
      · obtain ⟨_, h⟩ := hA.ex h; cases h
    subst hn
    obtain rfl : xs = [] := List.eq_nil_of_length_eq_zero hl
    rw [hc0 rfl]
    refine ⟨⟨_, w, run_append_owned_none w w.heap.size 22 ty 3 i0 1 Try.underlying22 hi (.slice none 0 0) 0 [] (World.ownsRow_nil _ _ _ _), World.ownsRow_nil _ _ _ _, ⟨rfl, rfl, rfl, Nat.le_refl _, fun _ _ _ => rfl⟩⟩, ?_⟩
    intro ev hev
    simp [Builtin.append_, run_underlying Try.underlying22, sizeOf, typeInfo, hi, Builtin.lenOf, Builtin.firstCells, go_sem] at hev
  | some a =>
    have hnews : ∀ j u, (xs.map iv)[j]? = some u → w.cell? (a.add j) = some u := by
      intro j u hj
      rw [List.getElem?_map] at hj
      cases hx : xs[j]? with
      | none => rw [hx] at hj; cases hj
      | some x =>
        rw [hx] at hj
        cases hj
        have hjn : j < n := by rw [← hl]; exact (List.getElem?_eq_some_iff.1 hx).1
        have := hA.cell j a hjn rfl
        rw [hx] at this
        exact this
    have h1 : ∀ u ∈ xs.map iv, u.oneCell' = true := by intro u hu; obtain ⟨x, _, rfl⟩ := List.mem_map.1 hu; rfl
    have h63 : 0 + n ≤ maxLen := by simp only [maxLen]; omega
    obtain ⟨v', w', hr, hown', hgrow, _⟩ := run_append_own (P := Try.prog) w w.heap.size 22 ty 3 i0 (.int .i64 0) 1 8 Try.underlying22 hi hz0 hz1 hz2 rfl (by decide) (.slice none 0 0) 0 [] (World.ownsRow_nil _ _ _ _) a n cap0 (xs.map iv) (by simp [hl]) hnews h1 h63 (by omega) (Nat.le_refl _)
    have hevs := events_append_where (P := Try.prog) w w.heap.size 22 ty 3 i0 (.int .i64 0) 1 8 Try.underlying22 hi hz0 hz1 hz2 (.slice none 0 0) 0 [] (World.ownsRow_nil _ _ _ _) a n cap0 (xs.map iv) (by simp [hl]) hnews h1 h63 (by omega)
    refine ⟨⟨v', w', hr, by simpa using hown', hgrow⟩, fun ev hev => ?_⟩
    rcases hevs ev hev with ⟨ad, h1, ⟨h2, h3⟩ | h3⟩ | h
    · rcases Nat.eq_zero_or_pos n with h0 | h0
      · subst h0
        simp [Builtin.append_, run_underlying Try.underlying22, sizeOf, typeInfo, hi, Builtin.lenOf, Builtin.firstCells, loadCells, loadCellsFrom, go_sem] at hev
      · exact .inl ⟨ad, h1, h2, h0, a, rfl, h3⟩
    · cases h3
    · exact .inr h

theorem own_len {w : World} {lo : Nat} {v : Value} {n : Nat} {xs : List Value} (h : w.ownsRow lo 3 1 v n xs) : xs.length = n := by have := h.1; omega


section
variable (Wg : Nat) (T ch GG : List Nat) (hGc : ∀ b ∈ GG, b ∈ ch)
include hGc in
set_option maxRecDepth 100000 in
/-- A LIST OF NUMBERS, AS A NEW ONE. -/
theorem ints_c {a0 : Option Addr} {n cap0 : Nat} {xs : List Int} {w0 : World} (hA : IR ch a0 n xs w0) (hc0 : a0 = none → cap0 = 0) (hn8 : n * 8 ≤ 140737488355328) (hT : ∀ b ∈ T, b < w0.heap.size) (hch : ∀ b ∈ ch, b < w0.heap.size) :
    CallsC Try.prog true (RC (0, false) Wg ch) (DM (0, false) Wg T ch GG) 10 #[.slice a0 n cap0] 30 w0 fun v w' => KO ch w0 w0.heap.size v (xs.map iv) w' := by
  refine callsC_of_wpC Try.func10 (by simp [Try.f10]) (show Try.f10.body = some body10 by simp [Try.f10, body10]) ?_
  have hF : RC (0, false) Wg ch w0 w0 := RC.refl _ _
  have e : (#[.slice a0 n cap0] : Array Value) ++ Array.replicate (Try.f10.ntmps - (#[.slice a0 n cap0] : Array Value).size) undef = #[.slice a0 n cap0, undef, undef, undef, undef, undef, undef] := by simp only [Try.f10]; walk_nrm
  rw [e]
  intro b k cs Stop q hb hk hc
  simp only [body10, Try.f10, Option.getD_some]
  repeat (first | (first | ((with_reducible first | refine goes_rend ?_ ?_ | refine goes_sq ?_ ?_ | refine goes_sk ?_ ?_ | refine goes_bl ?_ ?_ | refine goes_lo ?_ ?_ | refine goes_ib ?_ ?_ | refine goes_il ?_ ?_ | refine goes_rt ?_ ?_ | refine goes_en ?_ ?_); exact termsM _ _ _ _ _; intro _ h₁; replace hF := (RC.trans hF) h₁; clear h₁) | (with_reducible refine goes_rg ?_ ?_; exact termsM _ _ _ _ _; intro _ h₁; replace hF := (RC.trans hF) h₁; clear h₁; simp only [List.size_toArray, List.length_cons, List.length_nil, Nat.reduceAdd, Nat.zero_add, List.range, List.range.loop])) | (refine Goes.step rfl (fun w₁ h₁ => ?_); replace hF := (RC.trans hF) h₁; clear h₁; refine goes_oper_k rfl rfl hk (fun K hK => ?_); skip; go_simp; refine hK _ _ ⟨DM_same (fun e he => ?_), ?_⟩; (focus (have hm := mem_listed he; (simp [go_sem, *] at hm); (try (subst hm; exact hv _)))); (clear hK K); (try walk_nrm)))
  refine Goes.step rfl (fun w₁ h₁ => ?_)
  replace hF := RC.trans hF h₁
  clear h₁
  obtain ⟨⟨v', w', hr, hown, hg⟩, hev⟩ := app_nil 22 (hA.rely hF) hc0 hn8
  refine goes_oper_k rfl rfl hk (fun K hK => ?_)
  refine uponK_append (.tmp 4) (.tmp 5) 22 rfl rfl rfl hr (hK _ _ ⟨DM_of_grows (fun h => (by cases h)) hg (fun b hb => ⟨by have := hT b hb; rw [hF.size]; exact this, by simp⟩) (fun b hb => ⟨by have := hch b hb; rw [hF.size]; exact this, by simp⟩) (fun e he => ?_), ?_⟩)
  · have hm := mem_listed he
    rw [events_append_op (.tmp 4) (.tmp 5) 22 rfl rfl rfl] at hm
    rcases hev e hm with ⟨ad, h2, h3, h4, a, h5, h6⟩ | ⟨m, rfl, hn⟩
    · obtain ⟨l, wr, sy⟩ := e
      simp only at h2 h3
      subst h2 h3
      exact evM_rd _ _ (by rw [h6]; exact fun hb => (hA.rely hF).nch a h5 h4 (hGc _ hb)) (by rw [h6]; have := lt_of_cell ((hA.rely hF).cell 0 a h4 h5); rw [addBlock] at this; have := hg.size; omega)
    · exact evM_mark _ _ hn
  clear hK K
  have hsz := hF.size
  have hF : KO ch w0 w0.heap.size v' (xs.map iv) w' := ⟨(Grows.of hF none).trans (.grown hg ch), by rw [← hsz, List.length_map, hA.len]; exact hown, fun k hk h => by have := hch k h; have := (hown.lt k hk).1; omega⟩
  clear hr hown hg hev
  try walk_nrm
  repeat (first | (first | ((with_reducible first | refine goes_rend ?_ ?_ | refine goes_sq ?_ ?_ | refine goes_sk ?_ ?_ | refine goes_bl ?_ ?_ | refine goes_lo ?_ ?_ | refine goes_ib ?_ ?_ | refine goes_il ?_ ?_ | refine goes_rt ?_ ?_ | refine goes_en ?_ ?_); exact termsM _ _ _ _ _; intro _ h₁; replace hF := (KO.rely hF) h₁; clear h₁) | (with_reducible refine goes_rg ?_ ?_; exact termsM _ _ _ _ _; intro _ h₁; replace hF := (KO.rely hF) h₁; clear h₁; simp only [List.size_toArray, List.length_cons, List.length_nil, Nat.reduceAdd, Nat.zero_add, List.range, List.range.loop])) | (refine Goes.step rfl (fun w₁ h₁ => ?_); replace hF := (KO.rely hF) h₁; clear h₁; refine goes_oper_k rfl rfl hk (fun K hK => ?_); skip; go_simp; refine hK _ _ ⟨DM_same (fun e he => ?_), ?_⟩; (focus (have hm := mem_listed he; (simp [go_sem, *] at hm); (try (subst hm; exact hv _)))); (clear hK K); (try walk_nrm)))
  refine Goes.mono (n := q) ?_ (by omega)
  have hfin : ∀ (t : Array Value) (w' : World) (todo : List Item), KO ch w0 w0.heap.size (t.getD 2 undef) (xs.map iv) w' → Goes Try.prog true (RC (0, false) Wg ch) (DM (0, false) Wg T ch GG) Stop q (G { b.at ⟨t, []⟩ todo with mode := .returning } cs) w' :=
    fun t w' todo h => hc .ret ⟨t, []⟩ w' ⟨rfl, _, resultsC_tmp (t := 2) (by simp only [Try.f10]) t, h⟩ todo
  exact hfin _ _ _ hF


/-- While the list is overwritten: j marks. -/
structure KS (ch : List Nat) (w0 : World) (lo : Nat) (l : Value) (n : Nat) (ys : List Value) (w : World) : Prop where
  g : Grows ch l.ownBlock w0 w
  own : w.ownsRow lo 3 1 l n ys
  nch : ∀ k, l.ownBlock = some k → k ∉ ch
theorem KS.rely {Wg : Nat} {ch : List Nat} {w0 : World} {lo n : Nat} {l : Value} {ys : List Value} {w w₁ : World} (h : KS ch w0 lo l n ys w) (r : RC (0, false) Wg ch w w₁) : KS ch w0 lo l n ys w₁ := ⟨h.g.rely r, own_rely h.own h.nch r, h.nch⟩
theorem KS.set {ch : List Nat} {w0 : World} {lo n g cap j : Nat} {ys : List Value} {w : World} (h : KS ch w0 lo (.slice (some ⟨g, 0, none⟩) n cap) n ys w) (u : Value) : KS ch w0 lo (.slice (some ⟨g, 0, none⟩) n cap) n (ys.set j u) (w.setCell ⟨g, j, none⟩ u) :=
  let ⟨h1, h2⟩ := h.own.stored j u
  ⟨h.g.trans (.grown h2 ch), h1, h.nch⟩

/-- While the list is gone on with. -/
structure KG (T ch : List Nat) (w0 : World) (lo : Nat) (l : Value) (n : Nat) (mk : Int) (cur : Value) (j : Nat) (w : World) : Prop where
  g : Grows ch l.ownBlock w0 w
  own : w.ownsRow lo 3 1 cur (List.replicate (n + j) (iv mk)).length (List.replicate (n + j) (iv mk))
  old : w.ownsRow lo 3 1 l n (List.replicate n (iv mk))
  how : (∃ g cap, l = .slice (some ⟨g, 0, none⟩) n cap ∧ cur = .slice (some ⟨g, 0, none⟩) (n + j) cap) ∨ (∃ k, cur.ownBlock = some k ∧ w0.heap.size ≤ k) ∨ cur.ownBlock = none
  nch : ∀ k, cur.ownBlock = some k → k ∉ ch ∧ k ∉ T
  lch : ∀ k, l.ownBlock = some k → k ∉ ch ∧ k ∉ T ∧ k < w0.heap.size
section
variable {Wg : Nat} {T ch : List Nat} {w0 : World} {lo n : Nat} {l cur v' : Value} {mk : Int} {j : Nat} {w w₁ : World}
theorem KG.rely (h : KG T ch w0 lo l n mk cur j w) (r : RC (0, false) Wg ch w w₁) : KG T ch w0 lo l n mk cur j w₁ :=
  ⟨h.g.rely r, own_rely h.own (fun k hk => (h.nch k hk).1) r, own_rely h.old (fun k hk => (h.lch k hk).1) r, h.how, h.nch, h.lch⟩
theorem KG.push (hT : ∀ b ∈ T, b < w0.heap.size) (h : KG T ch w0 lo l n mk cur j w) (p : Push ch lo cur (List.replicate (n + j) (iv mk)) mk w v' w₁) : KG T ch w0 lo l n mk v' (j + 1) w₁ := by
  have hl : (List.replicate (n + j) (iv mk)).length = n + j := by simp
  have hr : List.replicate (n + j) (iv mk) ++ [iv mk] = List.replicate (n + (j + 1)) (iv mk) := by rw [← Nat.add_assoc, List.replicate_succ']
  have hown := p.own
  rw [hr] at hown
  have hg := h.g.size
  rcases p.how with ⟨g, cap, h1, h2⟩ | ⟨⟨k, h1, h2⟩, h3⟩
  · rw [hl] at h1 h2
    rcases h.how with ⟨g', cap', x1, x2⟩ | ⟨k, x1, x2⟩ | x1
    · rw [x2] at h1
      cases h1
      have hb : cur.ownBlock = l.ownBlock := by rw [x1, x2]; rfl
      refine ⟨h.g.trans (hb ▸ p.g), hown, ?_, .inl ⟨g, cap, x1, by rw [h2]; rfl⟩, fun k hk => ?_, h.lch⟩
      · rw [h2] at hown
        have := own_take (n' := n) (by simpa [Nat.add_assoc] using hown) (by omega)
        rw [x1]
        simpa [List.take_replicate, Nat.min_eq_left (show n ≤ n + (j + 1) by omega)] using this
      · rw [h2] at hk
        exact h.nch k (by rw [x2]; exact hk)
    · rw [h1] at x1
      cases x1
      have x2 : w0.heap.size ≤ g := x2
      have hne : ∀ k, l.ownBlock = some k → some k ≠ cur.ownBlock := fun k hk e => by
        have := (h.lch k hk).2.2
        rw [h1] at e
        have e : k = g := Option.some.inj e
        omega
      refine ⟨⟨p.g.os.trans h.g.os, p.g.tape.trans h.g.tape, p.g.output.trans h.g.output, Nat.le_trans h.g.size p.g.size, fun b hb hc hn => (p.g.block b (by omega) hc (fun e => by
        rw [h1] at e; have e : b = g := Option.some.inj e; omega)).trans (h.g.block b hb hc hn)⟩, hown, own_grows h.old (fun k hk => ⟨(h.lch k hk).1, hne k hk⟩) p.g, .inr (.inl ⟨g, by rw [h2]; rfl, x2⟩), fun k hk => ?_, h.lch⟩
      rw [h2] at hk
      exact h.nch k (by rw [h1]; exact hk)
    · rw [h1] at x1; cases x1
  · exact ⟨h.g.trans (h3.any _), hown, own_grows h.old (fun k hk => ⟨(h.lch k hk).1, by simp⟩) h3, .inr (.inl ⟨k, h1, by omega⟩), fun k' hk' => ⟨p.nch k' hk', fun hm => by
      rw [h1] at hk'; cases hk'; have := hT _ hm; omega⟩, h.lch⟩
end


section
variable (n cap : Nat) (mk : Int) (b : Frame) (k : List Item) (cs : List Frame)
noncomputable def head21a (l : Value) (j : Nat) (u2 u3 u4 u6 u7 u8 u9 u10 u11 u12 u13 u14 u15 u16 u17 u18 u19 u20 u21 u22 u23 u24 u25 : Value) : Goroutine := G (b.at ⟨#[l, iv mk, u2, u3, u4, .int .i64 j, u6, u7, u8, u9, u10, u11, u12, u13, u14, u15, u16, u17, u18, u19, u20, u21, u22, u23, u24, u25], []⟩ (.code L21a :: .inLoop L21a :: .inBlock 0 :: .code rest21 :: k)) cs
noncomputable def head21b (cur : Value) (j : Nat) (u2 u3 u4 u5 u7 u8 u9 u10 u11 u12 u13 u14 u15 u16 u17 u18 u19 u20 u21 u22 u23 u24 u25 : Value) : Goroutine := G (b.at ⟨#[cur, iv mk, u2, u3, u4, u5, .int .i64 j, u7, u8, u9, u10, u11, u12, u13, u14, u15, u16, u17, u18, u19, u20, u21, u22, u23, u24, u25], []⟩ (.code L21b :: .inLoop L21b :: .inBlock 2 :: .code end21 :: k)) cs

include hGc in
set_option maxRecDepth 100000 in
theorem loop21b (w0 : World) (lo : Nat) (hlo : lo ≤ w0.heap.size) (l : Value) (hn8 : (n + 40) * 8 ≤ 140737488355328) (hT : ∀ b ∈ T, b < w0.heap.size) (hch : ∀ b ∈ ch, b < w0.heap.size) (Stop : Goroutine → World → Prop) (q : Nat) (hb : b.fn = 21) (hk : b.kind ≠ .early)
    (hret : ∀ (t : Array Value) todo w', KG T ch w0 lo l n mk (t.getD 4 undef) 40 w' → Goes Try.prog true (RC (0, false) Wg ch) (DM (0, false) Wg T ch GG) Stop q (G { b.at ⟨t, []⟩ todo with mode := .returning } cs) w') :
    ∀ (r j : Nat), j + r = 40 → ∀ (cur : Value) (u2 u3 u4 u5 u7 u8 u9 u10 u11 u12 u13 u14 u15 u16 u17 u18 u19 u20 u21 u22 u23 u24 u25 : Value) (w : World), KG T ch w0 lo l n mk cur j w → Goes Try.prog true (RC (0, false) Wg ch) (DM (0, false) Wg T ch GG) Stop (q + 80 * (r + 1)) (head21b mk b k cs cur j u2 u3 u4 u5 u7 u8 u9 u10 u11 u12 u13 u14 u15 u16 u17 u18 u19 u20 u21 u22 u23 u24 u25) w := by
  intro r
  induction r with
  | zero =>
    intro j hj cur u2 u3 u4 u5 u7 u8 u9 u10 u11 u12 u13 u14 u15 u16 u17 u18 u19 u20 u21 u22 u23 u24 u25 w hF
    obtain rfl : j = 40 := by omega
    refine Goes.mono (n := q + 80) ?_ (by omega)
    simp only [head21b, L21b, end21, rest21, body21, Try.f21, Option.getD_some]
    repeat (first | (first | ((with_reducible first | refine goes_rend ?_ ?_ | refine goes_sq ?_ ?_ | refine goes_sk ?_ ?_ | refine goes_bl ?_ ?_ | refine goes_lo ?_ ?_ | refine goes_ib ?_ ?_ | refine goes_il ?_ ?_ | refine goes_rt ?_ ?_ | refine goes_en ?_ ?_); exact termsM _ _ _ _ _; intro _ h₁; replace hF := (KG.rely hF) h₁; clear h₁) | (with_reducible refine goes_rg ?_ ?_; exact termsM _ _ _ _ _; intro _ h₁; replace hF := (KG.rely hF) h₁; clear h₁; simp only [List.size_toArray, List.length_cons, List.length_nil, Nat.reduceAdd, Nat.zero_add, List.range, List.range.loop])) | (refine Goes.step rfl (fun w₁ h₁ => ?_); replace hF := (KG.rely hF) h₁; clear h₁; refine goes_oper_k rfl rfl hk (fun K hK => ?_); skip; go_simp; refine hK _ _ ⟨DM_same (fun e he => ?_), ?_⟩; (focus (have hm := mem_listed he; (simp [go_sem, *] at hm); (try (subst hm; exact hv _)))); (clear hK K); (try walk_nrm)))
    (refine goes_cd (termsM (0, false) Wg T ch GG) false rfl (fun _ h₁ => ?_); replace hF := (KG.rely hF) h₁; clear h₁; simp only [if_true, if_false, Bool.false_eq_true, ↓reduceIte])
    (refine goes_c (termsM (0, false) Wg T ch GG) rfl (fun _ => stepG_exit rfl) (fun _ h₁ => ?_); replace hF := (KG.rely hF) h₁; clear h₁)
    repeat (first | (first | ((with_reducible first | refine goes_rend ?_ ?_ | refine goes_sq ?_ ?_ | refine goes_sk ?_ ?_ | refine goes_bl ?_ ?_ | refine goes_lo ?_ ?_ | refine goes_ib ?_ ?_ | refine goes_il ?_ ?_ | refine goes_rt ?_ ?_ | refine goes_en ?_ ?_); exact termsM _ _ _ _ _; intro _ h₁; replace hF := (KG.rely hF) h₁; clear h₁) | (with_reducible refine goes_rg ?_ ?_; exact termsM _ _ _ _ _; intro _ h₁; replace hF := (KG.rely hF) h₁; clear h₁; simp only [List.size_toArray, List.length_cons, List.length_nil, Nat.reduceAdd, Nat.zero_add, List.range, List.range.loop])) | (refine Goes.step rfl (fun w₁ h₁ => ?_); replace hF := (KG.rely hF) h₁; clear h₁; refine goes_oper_k rfl rfl hk (fun K hK => ?_); skip; go_simp; refine hK _ _ ⟨DM_same (fun e he => ?_), ?_⟩; (focus (have hm := mem_listed he; (simp [go_sem, *] at hm); (try (subst hm; exact hv _)))); (clear hK K); (try walk_nrm)))
    refine Goes.mono (n := q) ?_ (by omega)
    exact hret _ _ _ hF
  | succ r ih =>
    intro j hj cur u2 u3 u4 u5 u7 u8 u9 u10 u11 u12 u13 u14 u15 u16 u17 u18 u19 u20 u21 u22 u23 u24 u25 w hF
    refine Goes.mono (n := (q + 80 * (r + 1)) + 80) ?_ (by omega)
    have hwr : IntKind.i64.wrap ((j : Int) + 1) = ((j + 1 : Nat) : Int) := by rw [IntKind.wrap_i64]; omega
    have hjn' : (j : Int) < 40 := by omega
    simp only [head21b, L21b, end21, rest21, body21, Try.f21, Option.getD_some] at ih ⊢
    repeat (first | (first | ((with_reducible first | refine goes_rend ?_ ?_ | refine goes_sq ?_ ?_ | refine goes_sk ?_ ?_ | refine goes_bl ?_ ?_ | refine goes_lo ?_ ?_ | refine goes_ib ?_ ?_ | refine goes_il ?_ ?_ | refine goes_rt ?_ ?_ | refine goes_en ?_ ?_); exact termsM _ _ _ _ _; intro _ h₁; replace hF := (KG.rely hF) h₁; clear h₁) | (with_reducible refine goes_rg ?_ ?_; exact termsM _ _ _ _ _; intro _ h₁; replace hF := (KG.rely hF) h₁; clear h₁; simp only [List.size_toArray, List.length_cons, List.length_nil, Nat.reduceAdd, Nat.zero_add, List.range, List.range.loop])) | (refine Goes.step rfl (fun w₁ h₁ => ?_); replace hF := (KG.rely hF) h₁; clear h₁; refine goes_oper_k rfl rfl hk (fun K hK => ?_); skip; go_simp; refine hK _ _ ⟨DM_same (fun e he => ?_), ?_⟩; (focus (have hm := mem_listed he; (simp [go_sem, *] at hm); (try (subst hm; exact hv _)))); (clear hK K); (try walk_nrm)))
    (refine goes_cd (termsM (0, false) Wg T ch GG) true rfl (fun _ h₁ => ?_); replace hF := (KG.rely hF) h₁; clear h₁; simp only [if_true, if_false, Bool.false_eq_true, ↓reduceIte])
    (first | ((with_reducible first | refine goes_rend ?_ ?_ | refine goes_sq ?_ ?_ | refine goes_sk ?_ ?_ | refine goes_bl ?_ ?_ | refine goes_lo ?_ ?_ | refine goes_ib ?_ ?_ | refine goes_il ?_ ?_ | refine goes_rt ?_ ?_ | refine goes_en ?_ ?_); exact termsM _ _ _ _ _; intro _ h₁; replace hF := (KG.rely hF) h₁; clear h₁) | (with_reducible refine goes_rg ?_ ?_; exact termsM _ _ _ _ _; intro _ h₁; replace hF := (KG.rely hF) h₁; clear h₁; simp only [List.size_toArray, List.length_cons, List.length_nil, Nat.reduceAdd, Nat.zero_add, List.range, List.range.loop]))
    (first | ((with_reducible first | refine goes_rend ?_ ?_ | refine goes_sq ?_ ?_ | refine goes_sk ?_ ?_ | refine goes_bl ?_ ?_ | refine goes_lo ?_ ?_ | refine goes_ib ?_ ?_ | refine goes_il ?_ ?_ | refine goes_rt ?_ ?_ | refine goes_en ?_ ?_); exact termsM _ _ _ _ _; intro _ h₁; replace hF := (KG.rely hF) h₁; clear h₁) | (with_reducible refine goes_rg ?_ ?_; exact termsM _ _ _ _ _; intro _ h₁; replace hF := (KG.rely hF) h₁; clear h₁; simp only [List.size_toArray, List.length_cons, List.length_nil, Nat.reduceAdd, Nat.zero_add, List.range, List.range.loop]))
    (first | ((with_reducible first | refine goes_rend ?_ ?_ | refine goes_sq ?_ ?_ | refine goes_sk ?_ ?_ | refine goes_bl ?_ ?_ | refine goes_lo ?_ ?_ | refine goes_ib ?_ ?_ | refine goes_il ?_ ?_ | refine goes_rt ?_ ?_ | refine goes_en ?_ ?_); exact termsM _ _ _ _ _; intro _ h₁; replace hF := (KG.rely hF) h₁; clear h₁) | (with_reducible refine goes_rg ?_ ?_; exact termsM _ _ _ _ _; intro _ h₁; replace hF := (KG.rely hF) h₁; clear h₁; simp only [List.size_toArray, List.length_cons, List.length_nil, Nat.reduceAdd, Nat.zero_add, List.range, List.range.loop]))
    (first | ((with_reducible first | refine goes_rend ?_ ?_ | refine goes_sq ?_ ?_ | refine goes_sk ?_ ?_ | refine goes_bl ?_ ?_ | refine goes_lo ?_ ?_ | refine goes_ib ?_ ?_ | refine goes_il ?_ ?_ | refine goes_rt ?_ ?_ | refine goes_en ?_ ?_); exact termsM _ _ _ _ _; intro _ h₁; replace hF := (KG.rely hF) h₁; clear h₁) | (with_reducible refine goes_rg ?_ ?_; exact termsM _ _ _ _ _; intro _ h₁; replace hF := (KG.rely hF) h₁; clear h₁; simp only [List.size_toArray, List.length_cons, List.length_nil, Nat.reduceAdd, Nat.zero_add, List.range, List.range.loop]))
    (refine Goes.step rfl (fun w₁ h₁ => ?_); replace hF := (KG.rely hF) h₁; clear h₁; refine goes_oper_k rfl rfl hk (fun K hK => ?_); skip; go_simp; refine hK _ _ ⟨DM_same (fun e he => ?_), ?_⟩; (focus (have hm := mem_listed he; (simp [go_sem, *] at hm); (try (subst hm; exact hv _)))); (clear hK K); (try walk_nrm))
    (refine Goes.step rfl (fun w₁ h₁ => ?_); replace hF := (KG.rely hF) h₁; clear h₁; refine goes_oper_k rfl rfl hk (fun K hK => ?_); skip; go_simp; refine hK _ _ ⟨DM_same (fun e he => ?_), ?_⟩; (focus (have hm := mem_listed he; (simp [go_sem, *] at hm); (try (subst hm; exact hv _)))); (clear hK K); (try walk_nrm))
    refine goes_push (fun h => (by cases h)) hGc (d := 23) (x := .tmp 22) (s := .tmp 21) (out := cur) (u := mk) hk rfl rfl rfl rfl rfl rfl (fun _ => rfl) rfl (fun _ => rfl) (fun _ => rfl) hF.own (Nat.le_trans hlo hF.g.size) (by rw [List.length_replicate]; omega)
      hF.nch (fun b hb => by have := hT _ hb; have := hF.g.size; omega) (fun b hb => by have := hch _ hb; have := hF.g.size; omega) fun v v' w' hP _ => ?_
    replace hF := KG.push hT hF hP
    clear hP
    try walk_nrm
    (refine Goes.step rfl (fun w₁ h₁ => ?_); replace hF := (KG.rely hF) h₁; clear h₁; refine goes_oper_k rfl rfl hk (fun K hK => ?_); skip; go_simp; refine hK _ _ ⟨DM_same (fun e he => ?_), ?_⟩; (focus (have hm := mem_listed he; (simp [go_sem, *] at hm); (try (subst hm; exact hv _)))); (clear hK K); (try walk_nrm))
    (first | ((with_reducible first | refine goes_rend ?_ ?_ | refine goes_sq ?_ ?_ | refine goes_sk ?_ ?_ | refine goes_bl ?_ ?_ | refine goes_lo ?_ ?_ | refine goes_ib ?_ ?_ | refine goes_il ?_ ?_ | refine goes_rt ?_ ?_ | refine goes_en ?_ ?_); exact termsM _ _ _ _ _; intro _ h₁; replace hF := (KG.rely hF) h₁; clear h₁) | (with_reducible refine goes_rg ?_ ?_; exact termsM _ _ _ _ _; intro _ h₁; replace hF := (KG.rely hF) h₁; clear h₁; simp only [List.size_toArray, List.length_cons, List.length_nil, Nat.reduceAdd, Nat.zero_add, List.range, List.range.loop]))
    (first | ((with_reducible first | refine goes_rend ?_ ?_ | refine goes_sq ?_ ?_ | refine goes_sk ?_ ?_ | refine goes_bl ?_ ?_ | refine goes_lo ?_ ?_ | refine goes_ib ?_ ?_ | refine goes_il ?_ ?_ | refine goes_rt ?_ ?_ | refine goes_en ?_ ?_); exact termsM _ _ _ _ _; intro _ h₁; replace hF := (KG.rely hF) h₁; clear h₁) | (with_reducible refine goes_rg ?_ ?_; exact termsM _ _ _ _ _; intro _ h₁; replace hF := (KG.rely hF) h₁; clear h₁; simp only [List.size_toArray, List.length_cons, List.length_nil, Nat.reduceAdd, Nat.zero_add, List.range, List.range.loop]))
    (first | ((with_reducible first | refine goes_rend ?_ ?_ | refine goes_sq ?_ ?_ | refine goes_sk ?_ ?_ | refine goes_bl ?_ ?_ | refine goes_lo ?_ ?_ | refine goes_ib ?_ ?_ | refine goes_il ?_ ?_ | refine goes_rt ?_ ?_ | refine goes_en ?_ ?_); exact termsM _ _ _ _ _; intro _ h₁; replace hF := (KG.rely hF) h₁; clear h₁) | (with_reducible refine goes_rg ?_ ?_; exact termsM _ _ _ _ _; intro _ h₁; replace hF := (KG.rely hF) h₁; clear h₁; simp only [List.size_toArray, List.length_cons, List.length_nil, Nat.reduceAdd, Nat.zero_add, List.range, List.range.loop]))
    (refine Goes.step rfl (fun w₁ h₁ => ?_); replace hF := (KG.rely hF) h₁; clear h₁; refine goes_oper_k rfl rfl hk (fun K hK => ?_); skip; go_simp; refine hK _ _ ⟨DM_same (fun e he => ?_), ?_⟩; (focus (have hm := mem_listed he; (simp [go_sem, *] at hm); (try (subst hm; exact hv _)))); (clear hK K); (try walk_nrm))
    (refine Goes.step rfl (fun w₁ h₁ => ?_); replace hF := (KG.rely hF) h₁; clear h₁; refine goes_oper_k rfl rfl hk (fun K hK => ?_); skip; go_simp; refine hK _ _ ⟨DM_same (fun e he => ?_), ?_⟩; (focus (have hm := mem_listed he; (simp [go_sem, *] at hm); (try (subst hm; exact hv _)))); (clear hK K); (try walk_nrm))
    (refine Goes.step rfl (fun w₁ h₁ => ?_); replace hF := (KG.rely hF) h₁; clear h₁; refine goes_oper_k rfl rfl hk (fun K hK => ?_); skip; go_simp; refine hK _ _ ⟨DM_same (fun e he => ?_), ?_⟩; (focus (have hm := mem_listed he; (simp [go_sem, *] at hm); (try (subst hm; exact hv _)))); (clear hK K); (try walk_nrm))
    (first | ((with_reducible first | refine goes_rend ?_ ?_ | refine goes_sq ?_ ?_ | refine goes_sk ?_ ?_ | refine goes_bl ?_ ?_ | refine goes_lo ?_ ?_ | refine goes_ib ?_ ?_ | refine goes_il ?_ ?_ | refine goes_rt ?_ ?_ | refine goes_en ?_ ?_); exact termsM _ _ _ _ _; intro _ h₁; replace hF := (KG.rely hF) h₁; clear h₁) | (with_reducible refine goes_rg ?_ ?_; exact termsM _ _ _ _ _; intro _ h₁; replace hF := (KG.rely hF) h₁; clear h₁; simp only [List.size_toArray, List.length_cons, List.length_nil, Nat.reduceAdd, Nat.zero_add, List.range, List.range.loop]))
    (first | ((with_reducible first | refine goes_rend ?_ ?_ | refine goes_sq ?_ ?_ | refine goes_sk ?_ ?_ | refine goes_bl ?_ ?_ | refine goes_lo ?_ ?_ | refine goes_ib ?_ ?_ | refine goes_il ?_ ?_ | refine goes_rt ?_ ?_ | refine goes_en ?_ ?_); exact termsM _ _ _ _ _; intro _ h₁; replace hF := (KG.rely hF) h₁; clear h₁) | (with_reducible refine goes_rg ?_ ?_; exact termsM _ _ _ _ _; intro _ h₁; replace hF := (KG.rely hF) h₁; clear h₁; simp only [List.size_toArray, List.length_cons, List.length_nil, Nat.reduceAdd, Nat.zero_add, List.range, List.range.loop]))
    refine Goes.mono (n := q + 80 * (r + 1)) ?_ (by omega)
    exact ih (j + 1) (by omega) _ _ _ _ _ _ _ _ _ _ _ _ _ _ _ _ _ _ _ _ _ _ _ _ _ hF

theorem set_marks (mk : Int) (ys : List Value) (j : Nat) (hj : j < ys.length) : (List.replicate j (iv mk) ++ ys.drop j).set j (iv mk) = List.replicate (j + 1) (iv mk) ++ ys.drop (j + 1) := by
  rw [List.set_append_right _ _ (by simp), List.length_replicate, Nat.sub_self, List.drop_eq_getElem_cons hj, List.set_cons_zero, List.replicate_succ', List.append_assoc]; rfl

include hGc in
set_option maxRecDepth 100000 in
theorem loop21a (w0 : World) (lo : Nat) (hlo : lo ≤ w0.heap.size) (ys : List Value) (a0 : Option Addr) (hys : ys.length = n) (hn8 : (n + 40) * 8 ≤ 140737488355328) (hT : ∀ b ∈ T, b < w0.heap.size) (hch : ∀ b ∈ ch, b < w0.heap.size)
    (hl : ∀ k, (Value.slice a0 n cap).ownBlock = some k → k ∉ ch ∧ k ∉ T ∧ k < w0.heap.size) (Stop : Goroutine → World → Prop) (q : Nat) (hb : b.fn = 21) (hk : b.kind ≠ .early)
    (hret : ∀ (t : Array Value) todo w', KG T ch w0 lo (.slice a0 n cap) n mk (t.getD 4 undef) 40 w' → Goes Try.prog true (RC (0, false) Wg ch) (DM (0, false) Wg T ch GG) Stop q (G { b.at ⟨t, []⟩ todo with mode := .returning } cs) w') :
    ∀ (r j : Nat), j + r = n → ∀ (u2 u3 u4 u6 u7 u8 u9 u10 u11 u12 u13 u14 u15 u16 u17 u18 u19 u20 u21 u22 u23 u24 u25 : Value) (w : World), KS ch w0 lo (.slice a0 n cap) n (List.replicate j (iv mk) ++ ys.drop j) w → Goes Try.prog true (RC (0, false) Wg ch) (DM (0, false) Wg T ch GG) Stop (q + 80 * 41 + 80 + 80 * (r + 1)) (head21a mk b k cs (.slice a0 n cap) j u2 u3 u4 u6 u7 u8 u9 u10 u11 u12 u13 u14 u15 u16 u17 u18 u19 u20 u21 u22 u23 u24 u25) w := by
  intro r
  induction r with
  | zero =>
    intro j hj u2 u3 u4 u6 u7 u8 u9 u10 u11 u12 u13 u14 u15 u16 u17 u18 u19 u20 u21 u22 u23 u24 u25 w hF
    obtain rfl : j = n := by omega
    have h1 := loop21b Wg T ch GG hGc j mk b k cs w0 lo hlo (.slice a0 j cap) hn8 hT hch Stop q hb hk hret 40 0 (by omega)
    refine Goes.mono (n := (q + 80 * (40 + 1)) + 80) ?_ (by omega)
    simp only [head21a, head21b, L21a, L21b, end21, rest21, body21, Try.f21, Option.getD_some] at h1 ⊢
    repeat (first | (first | ((with_reducible first | refine goes_rend ?_ ?_ | refine goes_sq ?_ ?_ | refine goes_sk ?_ ?_ | refine goes_bl ?_ ?_ | refine goes_lo ?_ ?_ | refine goes_ib ?_ ?_ | refine goes_il ?_ ?_ | refine goes_rt ?_ ?_ | refine goes_en ?_ ?_); exact termsM _ _ _ _ _; intro _ h₁; replace hF := (KS.rely hF) h₁; clear h₁) | (with_reducible refine goes_rg ?_ ?_; exact termsM _ _ _ _ _; intro _ h₁; replace hF := (KS.rely hF) h₁; clear h₁; simp only [List.size_toArray, List.length_cons, List.length_nil, Nat.reduceAdd, Nat.zero_add, List.range, List.range.loop])) | (refine Goes.step rfl (fun w₁ h₁ => ?_); replace hF := (KS.rely hF) h₁; clear h₁; refine goes_oper_k rfl rfl hk (fun K hK => ?_); skip; go_simp; refine hK _ _ ⟨DM_same (fun e he => ?_), ?_⟩; (focus (have hm := mem_listed he; (simp [go_sem, *] at hm); (try (subst hm; exact hv _)))); (clear hK K); (try walk_nrm)))
    (refine goes_cd (termsM (0, false) Wg T ch GG) false rfl (fun _ h₁ => ?_); replace hF := (KS.rely hF) h₁; clear h₁; simp only [if_true, if_false, Bool.false_eq_true, ↓reduceIte])
    (refine goes_c (termsM (0, false) Wg T ch GG) rfl (fun _ => stepG_exit rfl) (fun _ h₁ => ?_); replace hF := (KS.rely hF) h₁; clear h₁)
    (first | ((with_reducible first | refine goes_rend ?_ ?_ | refine goes_sq ?_ ?_ | refine goes_sk ?_ ?_ | refine goes_bl ?_ ?_ | refine goes_lo ?_ ?_ | refine goes_ib ?_ ?_ | refine goes_il ?_ ?_ | refine goes_rt ?_ ?_ | refine goes_en ?_ ?_); exact termsM _ _ _ _ _; intro _ h₁; replace hF := (KS.rely hF) h₁; clear h₁) | (with_reducible refine goes_rg ?_ ?_; exact termsM _ _ _ _ _; intro _ h₁; replace hF := (KS.rely hF) h₁; clear h₁; simp only [List.size_toArray, List.length_cons, List.length_nil, Nat.reduceAdd, Nat.zero_add, List.range, List.range.loop]))
    (first | ((with_reducible first | refine goes_rend ?_ ?_ | refine goes_sq ?_ ?_ | refine goes_sk ?_ ?_ | refine goes_bl ?_ ?_ | refine goes_lo ?_ ?_ | refine goes_ib ?_ ?_ | refine goes_il ?_ ?_ | refine goes_rt ?_ ?_ | refine goes_en ?_ ?_); exact termsM _ _ _ _ _; intro _ h₁; replace hF := (KS.rely hF) h₁; clear h₁) | (with_reducible refine goes_rg ?_ ?_; exact termsM _ _ _ _ _; intro _ h₁; replace hF := (KS.rely hF) h₁; clear h₁; simp only [List.size_toArray, List.length_cons, List.length_nil, Nat.reduceAdd, Nat.zero_add, List.range, List.range.loop]))
    (first | ((with_reducible first | refine goes_rend ?_ ?_ | refine goes_sq ?_ ?_ | refine goes_sk ?_ ?_ | refine goes_bl ?_ ?_ | refine goes_lo ?_ ?_ | refine goes_ib ?_ ?_ | refine goes_il ?_ ?_ | refine goes_rt ?_ ?_ | refine goes_en ?_ ?_); exact termsM _ _ _ _ _; intro _ h₁; replace hF := (KS.rely hF) h₁; clear h₁) | (with_reducible refine goes_rg ?_ ?_; exact termsM _ _ _ _ _; intro _ h₁; replace hF := (KS.rely hF) h₁; clear h₁; simp only [List.size_toArray, List.length_cons, List.length_nil, Nat.reduceAdd, Nat.zero_add, List.range, List.range.loop]))
    (refine Goes.step rfl (fun w₁ h₁ => ?_); replace hF := (KS.rely hF) h₁; clear h₁; refine goes_oper_k rfl rfl hk (fun K hK => ?_); skip; go_simp; refine hK _ _ ⟨DM_same (fun e he => ?_), ?_⟩; (focus (have hm := mem_listed he; (simp [go_sem, *] at hm); (try (subst hm; exact hv _)))); (clear hK K); (try walk_nrm))
    (first | ((with_reducible first | refine goes_rend ?_ ?_ | refine goes_sq ?_ ?_ | refine goes_sk ?_ ?_ | refine goes_bl ?_ ?_ | refine goes_lo ?_ ?_ | refine goes_ib ?_ ?_ | refine goes_il ?_ ?_ | refine goes_rt ?_ ?_ | refine goes_en ?_ ?_); exact termsM _ _ _ _ _; intro _ h₁; replace hF := (KS.rely hF) h₁; clear h₁) | (with_reducible refine goes_rg ?_ ?_; exact termsM _ _ _ _ _; intro _ h₁; replace hF := (KS.rely hF) h₁; clear h₁; simp only [List.size_toArray, List.length_cons, List.length_nil, Nat.reduceAdd, Nat.zero_add, List.range, List.range.loop]))
    (first | ((with_reducible first | refine goes_rend ?_ ?_ | refine goes_sq ?_ ?_ | refine goes_sk ?_ ?_ | refine goes_bl ?_ ?_ | refine goes_lo ?_ ?_ | refine goes_ib ?_ ?_ | refine goes_il ?_ ?_ | refine goes_rt ?_ ?_ | refine goes_en ?_ ?_); exact termsM _ _ _ _ _; intro _ h₁; replace hF := (KS.rely hF) h₁; clear h₁) | (with_reducible refine goes_rg ?_ ?_; exact termsM _ _ _ _ _; intro _ h₁; replace hF := (KS.rely hF) h₁; clear h₁; simp only [List.size_toArray, List.length_cons, List.length_nil, Nat.reduceAdd, Nat.zero_add, List.range, List.range.loop]))
    (first | ((with_reducible first | refine goes_rend ?_ ?_ | refine goes_sq ?_ ?_ | refine goes_sk ?_ ?_ | refine goes_bl ?_ ?_ | refine goes_lo ?_ ?_ | refine goes_ib ?_ ?_ | refine goes_il ?_ ?_ | refine goes_rt ?_ ?_ | refine goes_en ?_ ?_); exact termsM _ _ _ _ _; intro _ h₁; replace hF := (KS.rely hF) h₁; clear h₁) | (with_reducible refine goes_rg ?_ ?_; exact termsM _ _ _ _ _; intro _ h₁; replace hF := (KS.rely hF) h₁; clear h₁; simp only [List.size_toArray, List.length_cons, List.length_nil, Nat.reduceAdd, Nat.zero_add, List.range, List.range.loop]))
    refine Goes.mono (n := q + 80 * (40 + 1)) ?_ (by omega)
    have hrep : List.replicate j (iv mk) ++ ys.drop j = List.replicate j (iv mk) := by rw [List.drop_eq_nil_of_le (by omega), List.append_nil]
    have hown := hF.own
    rw [hrep] at hown
    refine h1 _ _ _ _ _ _ _ _ _ _ _ _ _ _ _ _ _ _ _ _ _ _ _ _ _ ⟨hF.g, by simpa using hown, hown, ?_, fun k hk => ⟨(hl k hk).1, (hl k hk).2.1⟩, hl⟩
    rcases hown.2 with ⟨h, _⟩ | ⟨g, cp, cur, h, _⟩
    · exact .inr (.inr (by rw [h]; rfl))
    · cases h; exact .inl ⟨g, _, rfl, rfl⟩
  | succ r ih =>
    intro j hj u2 u3 u4 u6 u7 u8 u9 u10 u11 u12 u13 u14 u15 u16 u17 u18 u19 u20 u21 u22 u23 u24 u25 w hF
    refine Goes.mono (n := (q + 80 * 41 + 80 + 80 * (r + 1)) + 80) ?_ (by omega)
    have hjn : j < n := by omega
    have hjn' : (j : Int) < (n : Int) := by omega
    have hwr : IntKind.i64.wrap ((j : Int) + 1) = ((j + 1 : Nat) : Int) := by rw [IntKind.wrap_i64]; omega
    obtain ⟨g, rfl⟩ : ∃ g, a0 = some ⟨g, 0, none⟩ := by
      rcases hF.own.2 with ⟨h, h0⟩ | ⟨g, cp, cur, h, _⟩
      · omega
      · cases h; exact ⟨g, rfl⟩
    have hgl := hl g rfl
    simp only [head21a, L21a, rest21, body21, Try.f21, Option.getD_some] at ih ⊢
    repeat (first | (first | ((with_reducible first | refine goes_rend ?_ ?_ | refine goes_sq ?_ ?_ | refine goes_sk ?_ ?_ | refine goes_bl ?_ ?_ | refine goes_lo ?_ ?_ | refine goes_ib ?_ ?_ | refine goes_il ?_ ?_ | refine goes_rt ?_ ?_ | refine goes_en ?_ ?_); exact termsM _ _ _ _ _; intro _ h₁; replace hF := (KS.rely hF) h₁; clear h₁) | (with_reducible refine goes_rg ?_ ?_; exact termsM _ _ _ _ _; intro _ h₁; replace hF := (KS.rely hF) h₁; clear h₁; simp only [List.size_toArray, List.length_cons, List.length_nil, Nat.reduceAdd, Nat.zero_add, List.range, List.range.loop])) | (refine Goes.step rfl (fun w₁ h₁ => ?_); replace hF := (KS.rely hF) h₁; clear h₁; refine goes_oper_k rfl rfl hk (fun K hK => ?_); skip; go_simp; refine hK _ _ ⟨DM_same (fun e he => ?_), ?_⟩; (focus (have hm := mem_listed he; (simp [go_sem, *] at hm); (try (subst hm; exact hv _)))); (clear hK K); (try walk_nrm)))
    (refine goes_cd (termsM (0, false) Wg T ch GG) true rfl (fun _ h₁ => ?_); replace hF := (KS.rely hF) h₁; clear h₁; simp only [if_true, if_false, Bool.false_eq_true, ↓reduceIte])
    (first | ((with_reducible first | refine goes_rend ?_ ?_ | refine goes_sq ?_ ?_ | refine goes_sk ?_ ?_ | refine goes_bl ?_ ?_ | refine goes_lo ?_ ?_ | refine goes_ib ?_ ?_ | refine goes_il ?_ ?_ | refine goes_rt ?_ ?_ | refine goes_en ?_ ?_); exact termsM _ _ _ _ _; intro _ h₁; replace hF := (KS.rely hF) h₁; clear h₁) | (with_reducible refine goes_rg ?_ ?_; exact termsM _ _ _ _ _; intro _ h₁; replace hF := (KS.rely hF) h₁; clear h₁; simp only [List.size_toArray, List.length_cons, List.length_nil, Nat.reduceAdd, Nat.zero_add, List.range, List.range.loop]))
    (first | ((with_reducible first | refine goes_rend ?_ ?_ | refine goes_sq ?_ ?_ | refine goes_sk ?_ ?_ | refine goes_bl ?_ ?_ | refine goes_lo ?_ ?_ | refine goes_ib ?_ ?_ | refine goes_il ?_ ?_ | refine goes_rt ?_ ?_ | refine goes_en ?_ ?_); exact termsM _ _ _ _ _; intro _ h₁; replace hF := (KS.rely hF) h₁; clear h₁) | (with_reducible refine goes_rg ?_ ?_; exact termsM _ _ _ _ _; intro _ h₁; replace hF := (KS.rely hF) h₁; clear h₁; simp only [List.size_toArray, List.length_cons, List.length_nil, Nat.reduceAdd, Nat.zero_add, List.range, List.range.loop]))
    (first | ((with_reducible first | refine goes_rend ?_ ?_ | refine goes_sq ?_ ?_ | refine goes_sk ?_ ?_ | refine goes_bl ?_ ?_ | refine goes_lo ?_ ?_ | refine goes_ib ?_ ?_ | refine goes_il ?_ ?_ | refine goes_rt ?_ ?_ | refine goes_en ?_ ?_); exact termsM _ _ _ _ _; intro _ h₁; replace hF := (KS.rely hF) h₁; clear h₁) | (with_reducible refine goes_rg ?_ ?_; exact termsM _ _ _ _ _; intro _ h₁; replace hF := (KS.rely hF) h₁; clear h₁; simp only [List.size_toArray, List.length_cons, List.length_nil, Nat.reduceAdd, Nat.zero_add, List.range, List.range.loop]))
    (first | ((with_reducible first | refine goes_rend ?_ ?_ | refine goes_sq ?_ ?_ | refine goes_sk ?_ ?_ | refine goes_bl ?_ ?_ | refine goes_lo ?_ ?_ | refine goes_ib ?_ ?_ | refine goes_il ?_ ?_ | refine goes_rt ?_ ?_ | refine goes_en ?_ ?_); exact termsM _ _ _ _ _; intro _ h₁; replace hF := (KS.rely hF) h₁; clear h₁) | (with_reducible refine goes_rg ?_ ?_; exact termsM _ _ _ _ _; intro _ h₁; replace hF := (KS.rely hF) h₁; clear h₁; simp only [List.size_toArray, List.length_cons, List.length_nil, Nat.reduceAdd, Nat.zero_add, List.range, List.range.loop]))
    (refine Goes.step rfl (fun w₁ h₁ => ?_); replace hF := (KS.rely hF) h₁; clear h₁; refine goes_oper_k rfl rfl hk (fun K hK => ?_); skip; go_simp; refine hK _ _ ⟨DM_same (fun e he => ?_), ?_⟩; (focus (have hm := mem_listed he; (simp [go_sem, *] at hm); (try (subst hm; exact hv _)))); (clear hK K); (try walk_nrm))
    (refine Goes.step rfl (fun w₁ h₁ => ?_); replace hF := (KS.rely hF) h₁; clear h₁; refine goes_oper_k rfl rfl hk (fun K hK => ?_); skip; go_simp; refine hK _ _ ⟨DM_same (fun e he => ?_), ?_⟩; (focus (have hm := mem_listed he; (simp [go_sem, *] at hm); (try (subst hm; exact hv _)))); (clear hK K); (try walk_nrm))
    (refine Goes.step rfl (fun w₁ h₁ => ?_); replace hF := (KS.rely hF) h₁; clear h₁; refine goes_oper_k rfl rfl hk (fun K hK => ?_); skip; go_simp; refine hK _ _ ⟨DM_same (fun e he => ?_), ?_⟩; (focus (have hm := mem_listed he; (simp [go_sem, *] at hm); (try (subst hm; exact hv _)))); (clear hK K); (try walk_nrm))
    (refine Goes.step rfl (fun w₁ h₁ => ?_); replace hF := (KS.rely hF) h₁; clear h₁; refine goes_oper_k rfl rfl hk (fun K hK => ?_); skip; go_simp; refine hK _ _ ⟨DM_same (fun e he => ?_), ?_⟩; (focus (have hm := mem_listed he; (simp [go_sem, *] at hm); (try (subst hm; exact hv _)))); (clear hK K); (try walk_nrm))
    refine Goes.step rfl (fun w₁ h₁ => ?_)
    replace hF := KS.rely hF h₁
    clear h₁
    have hc1 : ∃ u, w₁.cell? ⟨g, j, none⟩ = some u := by
      have := hF.own.cellAt j (by omega)
      exact ⟨_, this.trans (List.getElem?_eq_getElem (by simp; omega))⟩
    obtain ⟨u, hcu⟩ := hc1
    have hfz := hF.own.frozenAt j
    have hgs := hF.g.size
    refine goes_oper_k rfl rfl hk (fun K hK => ?_)
    go_simp
    refine hK _ _ ⟨DM_of_grows (fun h => (by cases h)) (hF.own.stored j (iv mk)).2 (fun b hb => ⟨by have := hT b hb; omega, fun e => by cases e; exact hgl.2.1 hb⟩) (fun b hb => ⟨by have := hch b hb; omega, fun e => by cases e; exact hgl.1 hb⟩) (fun e he => ?_), ?_⟩
    · have hm := mem_listed he
      simp [go_sem, *] at hm
      subst hm
      exact evM_wr _ _ _ hgl.2.1 (fun hb => hgl.1 (hGc _ hb)) (by rw [setCell_size]; exact lt_of_cell hcu)
    clear hK K hcu hfz
    replace hF := KS.set (j := j) hF (iv mk)
    rw [set_marks mk ys j (by omega)] at hF
    try walk_nrm
    (first | ((with_reducible first | refine goes_rend ?_ ?_ | refine goes_sq ?_ ?_ | refine goes_sk ?_ ?_ | refine goes_bl ?_ ?_ | refine goes_lo ?_ ?_ | refine goes_ib ?_ ?_ | refine goes_il ?_ ?_ | refine goes_rt ?_ ?_ | refine goes_en ?_ ?_); exact termsM _ _ _ _ _; intro _ h₁; replace hF := (KS.rely hF) h₁; clear h₁) | (with_reducible refine goes_rg ?_ ?_; exact termsM _ _ _ _ _; intro _ h₁; replace hF := (KS.rely hF) h₁; clear h₁; simp only [List.size_toArray, List.length_cons, List.length_nil, Nat.reduceAdd, Nat.zero_add, List.range, List.range.loop]))
    (first | ((with_reducible first | refine goes_rend ?_ ?_ | refine goes_sq ?_ ?_ | refine goes_sk ?_ ?_ | refine goes_bl ?_ ?_ | refine goes_lo ?_ ?_ | refine goes_ib ?_ ?_ | refine goes_il ?_ ?_ | refine goes_rt ?_ ?_ | refine goes_en ?_ ?_); exact termsM _ _ _ _ _; intro _ h₁; replace hF := (KS.rely hF) h₁; clear h₁) | (with_reducible refine goes_rg ?_ ?_; exact termsM _ _ _ _ _; intro _ h₁; replace hF := (KS.rely hF) h₁; clear h₁; simp only [List.size_toArray, List.length_cons, List.length_nil, Nat.reduceAdd, Nat.zero_add, List.range, List.range.loop]))
    (first | ((with_reducible first | refine goes_rend ?_ ?_ | refine goes_sq ?_ ?_ | refine goes_sk ?_ ?_ | refine goes_bl ?_ ?_ | refine goes_lo ?_ ?_ | refine goes_ib ?_ ?_ | refine goes_il ?_ ?_ | refine goes_rt ?_ ?_ | refine goes_en ?_ ?_); exact termsM _ _ _ _ _; intro _ h₁; replace hF := (KS.rely hF) h₁; clear h₁) | (with_reducible refine goes_rg ?_ ?_; exact termsM _ _ _ _ _; intro _ h₁; replace hF := (KS.rely hF) h₁; clear h₁; simp only [List.size_toArray, List.length_cons, List.length_nil, Nat.reduceAdd, Nat.zero_add, List.range, List.range.loop]))
    (refine Goes.step rfl (fun w₁ h₁ => ?_); replace hF := (KS.rely hF) h₁; clear h₁; refine goes_oper_k rfl rfl hk (fun K hK => ?_); skip; go_simp; refine hK _ _ ⟨DM_same (fun e he => ?_), ?_⟩; (focus (have hm := mem_listed he; (simp [go_sem, *] at hm); (try (subst hm; exact hv _)))); (clear hK K); (try walk_nrm))
    (refine Goes.step rfl (fun w₁ h₁ => ?_); replace hF := (KS.rely hF) h₁; clear h₁; refine goes_oper_k rfl rfl hk (fun K hK => ?_); skip; go_simp; refine hK _ _ ⟨DM_same (fun e he => ?_), ?_⟩; (focus (have hm := mem_listed he; (simp [go_sem, *] at hm); (try (subst hm; exact hv _)))); (clear hK K); (try walk_nrm))
    (refine Goes.step rfl (fun w₁ h₁ => ?_); replace hF := (KS.rely hF) h₁; clear h₁; refine goes_oper_k rfl rfl hk (fun K hK => ?_); skip; go_simp; refine hK _ _ ⟨DM_same (fun e he => ?_), ?_⟩; (focus (have hm := mem_listed he; (simp [go_sem, *] at hm); (try (subst hm; exact hv _)))); (clear hK K); (try walk_nrm))
    (first | ((with_reducible first | refine goes_rend ?_ ?_ | refine goes_sq ?_ ?_ | refine goes_sk ?_ ?_ | refine goes_bl ?_ ?_ | refine goes_lo ?_ ?_ | refine goes_ib ?_ ?_ | refine goes_il ?_ ?_ | refine goes_rt ?_ ?_ | refine goes_en ?_ ?_); exact termsM _ _ _ _ _; intro _ h₁; replace hF := (KS.rely hF) h₁; clear h₁) | (with_reducible refine goes_rg ?_ ?_; exact termsM _ _ _ _ _; intro _ h₁; replace hF := (KS.rely hF) h₁; clear h₁; simp only [List.size_toArray, List.length_cons, List.length_nil, Nat.reduceAdd, Nat.zero_add, List.range, List.range.loop]))
    (first | ((with_reducible first | refine goes_rend ?_ ?_ | refine goes_sq ?_ ?_ | refine goes_sk ?_ ?_ | refine goes_bl ?_ ?_ | refine goes_lo ?_ ?_ | refine goes_ib ?_ ?_ | refine goes_il ?_ ?_ | refine goes_rt ?_ ?_ | refine goes_en ?_ ?_); exact termsM _ _ _ _ _; intro _ h₁; replace hF := (KS.rely hF) h₁; clear h₁) | (with_reducible refine goes_rg ?_ ?_; exact termsM _ _ _ _ _; intro _ h₁; replace hF := (KS.rely hF) h₁; clear h₁; simp only [List.size_toArray, List.length_cons, List.length_nil, Nat.reduceAdd, Nat.zero_add, List.range, List.range.loop]))
    refine Goes.mono (n := q + 80 * 41 + 80 + 80 * (r + 1)) ?_ (by omega)
    exact ih (j + 1) (by omega) _ _ _ _ _ _ _ _ _ _ _ _ _ _ _ _ _ _ _ _ _ _ _ _ hF

include hGc in
set_option maxRecDepth 100000 in
/-- A LIST IS WRITTEN FULL, and gone on with. -/
theorem spoil_c : ∃ q, ∀ (a0 : Option Addr) (cap : Nat) (mk : Int) (lo : Nat) (ys : List Value) (w : World), w.ownsRow lo 3 1 (.slice a0 n cap) n ys → lo ≤ w.heap.size → (n + 40) * 8 ≤ 140737488355328 → (∀ b ∈ T, b < w.heap.size) → (∀ b ∈ ch, b < w.heap.size) →
    (∀ k, (Value.slice a0 n cap).ownBlock = some k → k ∉ ch ∧ k ∉ T ∧ k < w.heap.size) →
    CallsC Try.prog true (RC (0, false) Wg ch) (DM (0, false) Wg T ch GG) 21 #[.slice a0 n cap, iv mk] q w fun v w' => KG T ch w lo (.slice a0 n cap) n mk v 40 w' := by
  refine ⟨80 * 41 + 80 + 80 * (n + 1) + 80, fun a0 cap mk lo ys w0 hown hlo hn8 hT hch hl => callsC_of_wpC Try.func21 (by simp [Try.f21]) (show Try.f21.body = some body21 by simp [Try.f21, body21]) ?_⟩
  have hF : KS ch w0 lo (.slice a0 n cap) n (List.replicate 0 (iv mk) ++ ys.drop 0) w0 := ⟨Grows.refl _ _ _, hown, fun k hk => (hl k hk).1⟩
  have e : (#[.slice a0 n cap, iv mk] : Array Value) ++ Array.replicate (Try.f21.ntmps - (#[.slice a0 n cap, iv mk] : Array Value).size) undef = #[.slice a0 n cap, iv mk, undef, undef, undef, undef, undef, undef, undef, undef, undef, undef, undef, undef, undef, undef, undef, undef, undef, undef, undef, undef, undef, undef, undef, undef] := by simp only [Try.f21]; walk_nrm
  rw [e]
  intro b k cs Stop q hb hk hc
  have h1 := loop21a Wg T ch GG hGc n cap mk b k cs w0 lo hlo ys a0 (own_len hown) hn8 hT hch hl Stop q hb hk (fun t todo w' ht => hc .ret ⟨t, []⟩ w' ⟨rfl, _, resultsC_tmp (t := 4) (by simp only [Try.f21]) t, ht⟩ todo) n 0 (by omega)
  refine Goes.mono (n := (q + 80 * 41 + 80 + 80 * (n + 1)) + 80) ?_ (by omega)
  simp only [head21a, L21a, rest21, body21, Try.f21, Option.getD_some] at h1 ⊢
  (first | ((with_reducible first | refine goes_rend ?_ ?_ | refine goes_sq ?_ ?_ | refine goes_sk ?_ ?_ | refine goes_bl ?_ ?_ | refine goes_lo ?_ ?_ | refine goes_ib ?_ ?_ | refine goes_il ?_ ?_ | refine goes_rt ?_ ?_ | refine goes_en ?_ ?_); exact termsM _ _ _ _ _; intro _ h₁; replace hF := (KS.rely hF) h₁; clear h₁) | (with_reducible refine goes_rg ?_ ?_; exact termsM _ _ _ _ _; intro _ h₁; replace hF := (KS.rely hF) h₁; clear h₁; simp only [List.size_toArray, List.length_cons, List.length_nil, Nat.reduceAdd, Nat.zero_add, List.range, List.range.loop]))
  (first | ((with_reducible first | refine goes_rend ?_ ?_ | refine goes_sq ?_ ?_ | refine goes_sk ?_ ?_ | refine goes_bl ?_ ?_ | refine goes_lo ?_ ?_ | refine goes_ib ?_ ?_ | refine goes_il ?_ ?_ | refine goes_rt ?_ ?_ | refine goes_en ?_ ?_); exact termsM _ _ _ _ _; intro _ h₁; replace hF := (KS.rely hF) h₁; clear h₁) | (with_reducible refine goes_rg ?_ ?_; exact termsM _ _ _ _ _; intro _ h₁; replace hF := (KS.rely hF) h₁; clear h₁; simp only [List.size_toArray, List.length_cons, List.length_nil, Nat.reduceAdd, Nat.zero_add, List.range, List.range.loop]))
  (refine Goes.step rfl (fun w₁ h₁ => ?_); replace hF := (KS.rely hF) h₁; clear h₁; refine goes_oper_k rfl rfl hk (fun K hK => ?_); skip; go_simp; refine hK _ _ ⟨DM_same (fun e he => ?_), ?_⟩; (focus (have hm := mem_listed he; (simp [go_sem, *] at hm); (try (subst hm; exact hv _)))); (clear hK K); (try walk_nrm))
  (first | ((with_reducible first | refine goes_rend ?_ ?_ | refine goes_sq ?_ ?_ | refine goes_sk ?_ ?_ | refine goes_bl ?_ ?_ | refine goes_lo ?_ ?_ | refine goes_ib ?_ ?_ | refine goes_il ?_ ?_ | refine goes_rt ?_ ?_ | refine goes_en ?_ ?_); exact termsM _ _ _ _ _; intro _ h₁; replace hF := (KS.rely hF) h₁; clear h₁) | (with_reducible refine goes_rg ?_ ?_; exact termsM _ _ _ _ _; intro _ h₁; replace hF := (KS.rely hF) h₁; clear h₁; simp only [List.size_toArray, List.length_cons, List.length_nil, Nat.reduceAdd, Nat.zero_add, List.range, List.range.loop]))
  (first | ((with_reducible first | refine goes_rend ?_ ?_ | refine goes_sq ?_ ?_ | refine goes_sk ?_ ?_ | refine goes_bl ?_ ?_ | refine goes_lo ?_ ?_ | refine goes_ib ?_ ?_ | refine goes_il ?_ ?_ | refine goes_rt ?_ ?_ | refine goes_en ?_ ?_); exact termsM _ _ _ _ _; intro _ h₁; replace hF := (KS.rely hF) h₁; clear h₁) | (with_reducible refine goes_rg ?_ ?_; exact termsM _ _ _ _ _; intro _ h₁; replace hF := (KS.rely hF) h₁; clear h₁; simp only [List.size_toArray, List.length_cons, List.length_nil, Nat.reduceAdd, Nat.zero_add, List.range, List.range.loop]))
  (first | ((with_reducible first | refine goes_rend ?_ ?_ | refine goes_sq ?_ ?_ | refine goes_sk ?_ ?_ | refine goes_bl ?_ ?_ | refine goes_lo ?_ ?_ | refine goes_ib ?_ ?_ | refine goes_il ?_ ?_ | refine goes_rt ?_ ?_ | refine goes_en ?_ ?_); exact termsM _ _ _ _ _; intro _ h₁; replace hF := (KS.rely hF) h₁; clear h₁) | (with_reducible refine goes_rg ?_ ?_; exact termsM _ _ _ _ _; intro _ h₁; replace hF := (KS.rely hF) h₁; clear h₁; simp only [List.size_toArray, List.length_cons, List.length_nil, Nat.reduceAdd, Nat.zero_add, List.range, List.range.loop]))
  (first | ((with_reducible first | refine goes_rend ?_ ?_ | refine goes_sq ?_ ?_ | refine goes_sk ?_ ?_ | refine goes_bl ?_ ?_ | refine goes_lo ?_ ?_ | refine goes_ib ?_ ?_ | refine goes_il ?_ ?_ | refine goes_rt ?_ ?_ | refine goes_en ?_ ?_); exact termsM _ _ _ _ _; intro _ h₁; replace hF := (KS.rely hF) h₁; clear h₁) | (with_reducible refine goes_rg ?_ ?_; exact termsM _ _ _ _ _; intro _ h₁; replace hF := (KS.rely hF) h₁; clear h₁; simp only [List.size_toArray, List.length_cons, List.length_nil, Nat.reduceAdd, Nat.zero_add, List.range, List.range.loop]))
  (refine Goes.step rfl (fun w₁ h₁ => ?_); replace hF := (KS.rely hF) h₁; clear h₁; refine goes_oper_k rfl rfl hk (fun K hK => ?_); skip; go_simp; refine hK _ _ ⟨DM_same (fun e he => ?_), ?_⟩; (focus (have hm := mem_listed he; (simp [go_sem, *] at hm); (try (subst hm; exact hv _)))); (clear hK K); (try walk_nrm))
  (first | ((with_reducible first | refine goes_rend ?_ ?_ | refine goes_sq ?_ ?_ | refine goes_sk ?_ ?_ | refine goes_bl ?_ ?_ | refine goes_lo ?_ ?_ | refine goes_ib ?_ ?_ | refine goes_il ?_ ?_ | refine goes_rt ?_ ?_ | refine goes_en ?_ ?_); exact termsM _ _ _ _ _; intro _ h₁; replace hF := (KS.rely hF) h₁; clear h₁) | (with_reducible refine goes_rg ?_ ?_; exact termsM _ _ _ _ _; intro _ h₁; replace hF := (KS.rely hF) h₁; clear h₁; simp only [List.size_toArray, List.length_cons, List.length_nil, Nat.reduceAdd, Nat.zero_add, List.range, List.range.loop]))
  (first | ((with_reducible first | refine goes_rend ?_ ?_ | refine goes_sq ?_ ?_ | refine goes_sk ?_ ?_ | refine goes_bl ?_ ?_ | refine goes_lo ?_ ?_ | refine goes_ib ?_ ?_ | refine goes_il ?_ ?_ | refine goes_rt ?_ ?_ | refine goes_en ?_ ?_); exact termsM _ _ _ _ _; intro _ h₁; replace hF := (KS.rely hF) h₁; clear h₁) | (with_reducible refine goes_rg ?_ ?_; exact termsM _ _ _ _ _; intro _ h₁; replace hF := (KS.rely hF) h₁; clear h₁; simp only [List.size_toArray, List.length_cons, List.length_nil, Nat.reduceAdd, Nat.zero_add, List.range, List.range.loop]))
  (first | ((with_reducible first | refine goes_rend ?_ ?_ | refine goes_sq ?_ ?_ | refine goes_sk ?_ ?_ | refine goes_bl ?_ ?_ | refine goes_lo ?_ ?_ | refine goes_ib ?_ ?_ | refine goes_il ?_ ?_ | refine goes_rt ?_ ?_ | refine goes_en ?_ ?_); exact termsM _ _ _ _ _; intro _ h₁; replace hF := (KS.rely hF) h₁; clear h₁) | (with_reducible refine goes_rg ?_ ?_; exact termsM _ _ _ _ _; intro _ h₁; replace hF := (KS.rely hF) h₁; clear h₁; simp only [List.size_toArray, List.length_cons, List.length_nil, Nat.reduceAdd, Nat.zero_add, List.range, List.range.loop]))
  refine Goes.mono (n := q + 80 * 41 + 80 + 80 * (n + 1)) ?_ (by omega)
  exact h1 _ _ _ _ _ _ _ _ _ _ _ _ _ _ _ _ _ _ _ _ _ _ _ _ hF
end
end
end Go.Proofs.Ytplndihadjfliaa.Mix
