/-
  CREW: the walk of CrewMerge: copies of the parts and of the turns.
-/
import Derived.Test.YtplndihadjfliaaM17
set_option linter.unusedSimpArgs false
set_option linter.unusedVariables false
set_option maxHeartbeats 2000000
namespace Go.Proofs.Ytplndihadjfliaa.Mix
open Go Go.Conc Go.ConcN Go.Proofs Go.RowKit

theorem own_slice {w : World} {lo n : Nat} {v : Value} {ys : List Value} (h : w.ownsRow lo 3 1 v n ys) : ∃ a0 cap, v = .slice a0 n cap ∧ (a0 = none → cap = 0) := by
  rcases h.2 with ⟨h0, h1⟩ | ⟨g, cp, cur, h0, _⟩
  · exact ⟨none, 0, by rw [h0, h1], fun _ => rfl⟩
  · exact ⟨_, cp, h0, fun h => by cases h⟩
def slA : Value → Option Addr
  | .slice a _ _ => a
  | _ => none
def slC : Value → Nat
  | .slice _ _ c => c
  | _ => 0

/-- While the parts are copied. -/
structure KB (W : World) (NW : Nat) (want : Value) (ref : List Int) (zs : Nat → List Int) (out : Value) (vs : List Value) (w : World) : Prop where
  below : Below W.heap.size W w
  nw : W.heap.size ≤ NW
  sz : NW ≤ w.heap.size
  rw0 : w.ownsRow W.heap.size 3 1 want ref.length (ref.map iv)
  wlt : ∀ k, want.ownBlock = some k → k < NW
  own : w.ownsRow NW 22 1 out vs.length vs
  rows : ∀ p, p < vs.length → ∃ a c, vs[p]? = some (.slice a (zs p).length c) ∧ w.ownsRow NW 3 1 (.slice a (zs p).length c) (zs p).length ((zs p).map iv) ∧ ∀ k, (Value.slice a (zs p).length c).ownBlock = some k → some k ≠ out.ownBlock
section
variable {W : World} {NW : Nat} {want : Value} {ref : List Int} {zs : Nat → List Int} {out v v' : Value} {vs : List Value} {w w₁ w2 : World}
theorem KB.rely {ty : TypeId × Bool} {Wg : Nat} (h : KB W NW want ref zs out vs w) (r : RC ty Wg [] w w₁) : KB W NW want ref zs out vs w₁ :=
  ⟨⟨r.os.trans h.below.os, r.tape.trans h.below.tape, r.output.trans h.below.output, by rw [r.size]; exact h.below.size, fun b hb => (r.block b (by simp)).trans (h.below.block b hb)⟩, h.nw, by rw [r.size]; exact h.sz,
    own_rely h.rw0 (fun _ _ => by simp) r, h.wlt, own_relyL h.own (fun _ _ => by simp) r, fun p hp => let ⟨a, c, x1, x2, x3⟩ := h.rows p hp; ⟨a, c, x1, own_rely x2 (fun _ _ => by simp) r, x3⟩⟩
theorem KB.grows (h : KB W NW want ref zs out vs w) (g : Grows [] none w w₁) : KB W NW want ref zs out vs w₁ :=
  ⟨⟨g.os.trans h.below.os, g.tape.trans h.below.tape, g.output.trans h.below.output, by have := h.below.size; have := g.size; omega, fun b hb => (g.block b (by have := h.below.size; omega) (by simp) (by simp)).trans (h.below.block b hb)⟩, h.nw, by have := h.sz; have := g.size; omega,
    own_grows h.rw0 (fun _ _ => by simp) g, h.wlt, own_growsL h.own (fun _ _ => by simp) g, fun p hp => let ⟨a, c, x1, x2, x3⟩ := h.rows p hp; ⟨a, c, x1, own_grows x2 (fun _ _ => by simp) g, x3⟩⟩
theorem KB.ir {a0 : Option Addr} {n : Nat} {xs : List Int} (h : KB W NW want ref zs out vs w) (i : IR [] a0 n xs W) : IR [] a0 n xs w :=
  i.grows ⟨h.below.os, h.below.tape, h.below.output, h.below.size, fun b hb _ _ => h.below.block b hb⟩
theorem KB.pr {pA : Option Addr} {M : Nat} {pa : Nat → Option Addr} {pn pc : Nat → Nat} (h : KB W NW want ref zs out vs w) (i : PR [] pA M pa pn pc zs W) : PR [] pA M pa pn pc zs w :=
  i.grows ⟨h.below.os, h.below.tape, h.below.output, h.below.size, fun b hb _ _ => h.below.block b hb⟩

/-- .. the next copy is there, and not yet in the list. -/
structure KC (W : World) (NW : Nat) (want : Value) (ref : List Int) (zs : Nat → List Int) (out : Value) (vs : List Value) (v : Value) (w : World) : Prop where
  kb : KB W NW want ref zs out vs w
  row : w.ownsRow NW 3 1 v (zs vs.length).length ((zs vs.length).map iv)
  sep : ∀ k, v.ownBlock = some k → some k ≠ out.ownBlock
theorem KC.rely {ty : TypeId × Bool} {Wg : Nat} (h : KC W NW want ref zs out vs v w) (r : RC ty Wg [] w w₁) : KC W NW want ref zs out vs v w₁ := ⟨h.kb.rely r, own_rely h.row (fun _ _ => by simp) r, h.sep⟩
theorem KB.copy (h : KB W NW want ref zs out vs w) (k : KO [] w w.heap.size v ((zs vs.length).map iv) w2) : KC W NW want ref zs out vs v w2 :=
  ⟨h.grows k.g, own_base (by simpa using k.own) (fun b hb => by have := (k.own.lt b hb).1; have := h.sz; omega), fun b hb e => by have := (k.own.lt b hb).1; have := (h.own.lt b e.symm).2; omega⟩
theorem KC.push (h : KC W NW want ref zs out vs v w) (p : PushL [] NW out vs v w v' w₁) : KB W NW want ref zs v' (vs ++ [v]) w₁ := by
  have hb := h.kb.below.size
  have hnw := h.kb.nw
  have hkeep : ∀ {lo n : Nat} {u : Value} {xs : List Value}, w.ownsRow lo 3 1 u n xs → (∀ k, u.ownBlock = some k → some k ≠ out.ownBlock) → w₁.ownsRow lo 3 1 u n xs := fun ho hn => own_grows ho (fun k hk => ⟨by simp, hn k hk⟩) p.g
  have hsep : ∀ k, k < w.heap.size → some k ≠ out.ownBlock → some k ≠ v'.ownBlock := fun k hk hn e => by
    rcases p.how with ⟨g, cap, h1, h2⟩ | ⟨⟨g, h1, h2⟩, _⟩
    · rw [h2] at e; rw [h1] at hn; exact hn e
    · rw [h1] at e; cases e; omega
  have hout : ∀ k, out.ownBlock = some k → NW ≤ k := fun k hk => (h.kb.own.lt k hk).1
  refine ⟨⟨p.g.os.trans h.kb.below.os, p.g.tape.trans h.kb.below.tape, p.g.output.trans h.kb.below.output, by have := p.g.size; omega, fun b hb' => (p.g.block b (by omega) (by simp) (fun e => by have := hout b e.symm; omega)).trans (h.kb.below.block b hb')⟩, hnw, by have := p.g.size; have := h.kb.sz; omega,
    hkeep h.kb.rw0 (fun k hk e => by have := h.kb.wlt k hk; have := hout k e.symm; omega), h.kb.wlt, p.own, fun q hq => ?_⟩
  rw [List.length_append, List.length_singleton] at hq
  by_cases e : q < vs.length
  · obtain ⟨a, c, x1, x2, x3⟩ := h.kb.rows q e
    exact ⟨a, c, by rw [List.getElem?_append_left e]; exact x1, hkeep x2 x3, fun k hk => hsep k (x2.lt k hk).2 (x3 k hk)⟩
  · obtain rfl : q = vs.length := by omega
    obtain ⟨a, c, rfl, _⟩ := own_slice h.row
    exact ⟨a, c, by rw [List.getElem?_append_right (Nat.le_refl _)]; simp, hkeep h.row h.sep, fun k hk => hsep k (h.row.lt k hk).2 (h.sep k hk)⟩
end

noncomputable def body5 : Code := Try.f5.body.getD .skip
noncomputable def t5a : Code := match body5 with | .seq _ (.seq _ (.seq _ r)) => r | _ => .skip
noncomputable def L5a : Code := match t5a with | .seq (.seq _ (.block _ (.loop c))) _ => c | _ => .skip
noncomputable def t5b : Code := match t5a with | .seq _ r => r | _ => .skip
noncomputable def t5c : Code := match t5b with | .seq _ r => r | _ => .skip
noncomputable def ops5c : Array Oper := match t5c with | .seq (.region _ ops _) _ => ops | _ => #[]
noncomputable def t5d : Code := match t5c with | .seq _ r => r | _ => .skip
noncomputable def ops5d : Array Oper := match t5d with | .seq (.region _ ops _) _ => ops | _ => #[]
noncomputable def t5e : Code := match t5d with | .seq _ r => r | _ => .skip
noncomputable def ops5e : Array Oper := match t5e with | .seq (.region _ ops _) _ => ops | _ => #[]
noncomputable def t5f : Code := match t5e with | .seq _ r => r | _ => .skip

section
variable (Wg : Nat) (W : World) (NW : Nat) (want : Value) (ref : List Int) (pA : Option Addr) (M pcap : Nat) (pa : Nat → Option Addr) (pn pc : Nat → Nat) (zs : Nat → List Int) (tA : Option Addr) (tn tcap : Nat)

noncomputable def head5a (out : Value) (j : Nat) (u2 u3 u4 u8 u9 u10 u11 u12 u13 u14 u15 u16 u17 u18 u19 u20 u21 u22 u23 u24 u25 u26 u27 u28 u29 u30 u31 u32 u33 u34 u35 u36 u37 u38 u39 u40 u41 u42 u43 u44 u45 u46 u47 u48 u49 u50 u51 u52 u53 u54 u55 u56 u57 u58 u59 u60 u61 u62 u63 u64 u65 u66 u67 u68 u69 u70 : Value) : Goroutine := G ((base 5).at ⟨#[.slice pA M pcap, .slice tA tn tcap, u2, u3, u4, want, out, .int .i64 j, u8, u9, u10, u11, u12, u13, u14, u15, u16, u17, u18, u19, u20, u21, u22, u23, u24, u25, u26, u27, u28, u29, u30, u31, u32, u33, u34, u35, u36, u37, u38, u39, u40, u41, u42, u43, u44, u45, u46, u47, u48, u49, u50, u51, u52, u53, u54, u55, u56, u57, u58, u59, u60, u61, u62, u63, u64, u65, u66, u67, u68, u69, u70], []⟩ [.code L5a, .inLoop L5a, .inBlock 0, .code t5b]) []

set_option maxRecDepth 100000 in
/-- The parts are copied. -/
theorem loop5a (hPR : PR [] pA M pa pn pc zs W) (hpc : ∀ p, p < M → pa p = none → pc p = 0) (hp8 : ∀ p, p < M → pn p * 8 ≤ 140737488355328) (hM24 : M * 24 ≤ 140737488355328) (Stop : Goroutine → World → Prop) (q : Nat)
    (next : ∀ (out : Value) (vs : List Value) (u2 u3 u4 u8 u9 u10 u11 u12 u13 u14 u15 u16 u17 u18 u19 u20 u21 u22 u23 u24 u25 u26 u27 u28 u29 u30 u31 u32 u33 u34 u35 u36 u37 u38 u39 u40 u41 u42 u43 u44 u45 u46 u47 u48 u49 u50 u51 u52 u53 u54 u55 u56 u57 u58 u59 u60 u61 u62 u63 u64 u65 u66 u67 u68 u69 u70 : Value) w', vs.length = M → KB W NW want ref zs out vs w' → Goes Try.prog true (RC (0, false) Wg []) (DM (0, false) Wg [] [] []) Stop q (head5a want pA M pcap tA tn tcap out M u2 u3 u4 u8 u9 u10 u11 u12 u13 u14 u15 u16 u17 u18 u19 u20 u21 u22 u23 u24 u25 u26 u27 u28 u29 u30 u31 u32 u33 u34 u35 u36 u37 u38 u39 u40 u41 u42 u43 u44 u45 u46 u47 u48 u49 u50 u51 u52 u53 u54 u55 u56 u57 u58 u59 u60 u61 u62 u63 u64 u65 u66 u67 u68 u69 u70) w') :
    ∀ (r j : Nat), j + r = M → ∀ (out : Value) (vs : List Value) (u2 u3 u4 u8 u9 u10 u11 u12 u13 u14 u15 u16 u17 u18 u19 u20 u21 u22 u23 u24 u25 u26 u27 u28 u29 u30 u31 u32 u33 u34 u35 u36 u37 u38 u39 u40 u41 u42 u43 u44 u45 u46 u47 u48 u49 u50 u51 u52 u53 u54 u55 u56 u57 u58 u59 u60 u61 u62 u63 u64 u65 u66 u67 u68 u69 u70 : Value) (w : World), vs.length = j → KB W NW want ref zs out vs w → Goes Try.prog true (RC (0, false) Wg []) (DM (0, false) Wg [] [] []) Stop (q + 130 * r) (head5a want pA M pcap tA tn tcap out j u2 u3 u4 u8 u9 u10 u11 u12 u13 u14 u15 u16 u17 u18 u19 u20 u21 u22 u23 u24 u25 u26 u27 u28 u29 u30 u31 u32 u33 u34 u35 u36 u37 u38 u39 u40 u41 u42 u43 u44 u45 u46 u47 u48 u49 u50 u51 u52 u53 u54 u55 u56 u57 u58 u59 u60 u61 u62 u63 u64 u65 u66 u67 u68 u69 u70) w := by
  intro r
  induction r with
  | zero =>
    intro j hj out vs u2 u3 u4 u8 u9 u10 u11 u12 u13 u14 u15 u16 u17 u18 u19 u20 u21 u22 u23 u24 u25 u26 u27 u28 u29 u30 u31 u32 u33 u34 u35 u36 u37 u38 u39 u40 u41 u42 u43 u44 u45 u46 u47 u48 u49 u50 u51 u52 u53 u54 u55 u56 u57 u58 u59 u60 u61 u62 u63 u64 u65 u66 u67 u68 u69 u70 w hv hF
    obtain rfl : j = M := by omega
    exact next out vs u2 u3 u4 u8 u9 u10 u11 u12 u13 u14 u15 u16 u17 u18 u19 u20 u21 u22 u23 u24 u25 u26 u27 u28 u29 u30 u31 u32 u33 u34 u35 u36 u37 u38 u39 u40 u41 u42 u43 u44 u45 u46 u47 u48 u49 u50 u51 u52 u53 u54 u55 u56 u57 u58 u59 u60 u61 u62 u63 u64 u65 u66 u67 u68 u69 u70 w hv hF
  | succ r ih =>
    intro j hj out vs u2 u3 u4 u8 u9 u10 u11 u12 u13 u14 u15 u16 u17 u18 u19 u20 u21 u22 u23 u24 u25 u26 u27 u28 u29 u30 u31 u32 u33 u34 u35 u36 u37 u38 u39 u40 u41 u42 u43 u44 u45 u46 u47 u48 u49 u50 u51 u52 u53 u54 u55 u56 u57 u58 u59 u60 u61 u62 u63 u64 u65 u66 u67 u68 u69 u70 w hv hF
    have hjM : j < M := by omega
    obtain ⟨pd, hpd⟩ := hPR.ex (by omega)
    have hj' : (j : Int) < (M : Int) := by omega
    have hmx := hPR.max
    have hwr : IntKind.i64.wrap ((j : Int) + 1) = ((j + 1 : Nat) : Int) := by rw [IntKind.wrap_i64]; omega
    have ih := ih (j + 1) (by omega)
    subst hv
    subst hpd
    have hPv : ∀ w, KB W NW want ref zs out vs w → w.cell? (pd.add vs.length) = some (.slice (pa vs.length) (pn vs.length) (pc vs.length)) := fun w h => (h.pr hPR).pv vs.length pd hjM rfl
    have hPe : ∀ w, KB W NW want ref zs out vs w → ∀ s, EvM [] [] w.heap.size ⟨.cell (pd.add vs.length), false, s⟩ := fun w h => (h.pr hPR).ev (T := []) (GG := []) (by simp) hjM rfl
    have hk : (base 5).kind ≠ .early := by decide
    refine Goes.mono (n := (q + 130 * r) + 130) ?_ (by omega)
    simp only [head5a, L5a, t5a, body5, Try.f5, Option.getD_some] at ih ⊢
    (repeat (first | (first | ((with_reducible first | refine goes_rend ?_ ?_ | refine goes_sq ?_ ?_ | refine goes_sk ?_ ?_ | refine goes_bl ?_ ?_ | refine goes_lo ?_ ?_ | refine goes_ib ?_ ?_ | refine goes_il ?_ ?_ | refine goes_rt ?_ ?_ | refine goes_en ?_ ?_); exact termsM _ _ _ _ _; intro _ h₁; replace hF := (KB.rely hF) h₁; clear h₁) | (with_reducible refine goes_rg ?_ ?_; exact termsM _ _ _ _ _; intro _ h₁; replace hF := (KB.rely hF) h₁; clear h₁; simp only [List.size_toArray, List.length_cons, List.length_nil, Nat.reduceAdd, Nat.zero_add, List.range, List.range.loop])) | (refine Goes.step rfl (fun w₁ h₁ => ?_); replace hF := (KB.rely hF) h₁; clear h₁; refine goes_oper_k rfl rfl hk (fun K hK => ?_); skip; go_simp; refine hK _ _ ⟨DM_same (fun e he => ?_), ?_⟩; (focus (have hm := mem_listed he; (simp [go_sem, *] at hm); (try (subst hm; exact hv _)))); (clear hK K); (try walk_nrm))))
    (refine goes_cd (termsM (0, false) Wg [] [] []) true rfl (fun _ h₁ => ?_); replace hF := (KB.rely hF) h₁; clear h₁; simp only [if_true, if_false, Bool.false_eq_true, ↓reduceIte])
    (first | ((with_reducible first | refine goes_rend ?_ ?_ | refine goes_sq ?_ ?_ | refine goes_sk ?_ ?_ | refine goes_bl ?_ ?_ | refine goes_lo ?_ ?_ | refine goes_ib ?_ ?_ | refine goes_il ?_ ?_ | refine goes_rt ?_ ?_ | refine goes_en ?_ ?_); exact termsM _ _ _ _ _; intro _ h₁; replace hF := (KB.rely hF) h₁; clear h₁) | (with_reducible refine goes_rg ?_ ?_; exact termsM _ _ _ _ _; intro _ h₁; replace hF := (KB.rely hF) h₁; clear h₁; simp only [List.size_toArray, List.length_cons, List.length_nil, Nat.reduceAdd, Nat.zero_add, List.range, List.range.loop]))
    (first | ((with_reducible first | refine goes_rend ?_ ?_ | refine goes_sq ?_ ?_ | refine goes_sk ?_ ?_ | refine goes_bl ?_ ?_ | refine goes_lo ?_ ?_ | refine goes_ib ?_ ?_ | refine goes_il ?_ ?_ | refine goes_rt ?_ ?_ | refine goes_en ?_ ?_); exact termsM _ _ _ _ _; intro _ h₁; replace hF := (KB.rely hF) h₁; clear h₁) | (with_reducible refine goes_rg ?_ ?_; exact termsM _ _ _ _ _; intro _ h₁; replace hF := (KB.rely hF) h₁; clear h₁; simp only [List.size_toArray, List.length_cons, List.length_nil, Nat.reduceAdd, Nat.zero_add, List.range, List.range.loop]))
    (first | ((with_reducible first | refine goes_rend ?_ ?_ | refine goes_sq ?_ ?_ | refine goes_sk ?_ ?_ | refine goes_bl ?_ ?_ | refine goes_lo ?_ ?_ | refine goes_ib ?_ ?_ | refine goes_il ?_ ?_ | refine goes_rt ?_ ?_ | refine goes_en ?_ ?_); exact termsM _ _ _ _ _; intro _ h₁; replace hF := (KB.rely hF) h₁; clear h₁) | (with_reducible refine goes_rg ?_ ?_; exact termsM _ _ _ _ _; intro _ h₁; replace hF := (KB.rely hF) h₁; clear h₁; simp only [List.size_toArray, List.length_cons, List.length_nil, Nat.reduceAdd, Nat.zero_add, List.range, List.range.loop]))
    (first | ((with_reducible first | refine goes_rend ?_ ?_ | refine goes_sq ?_ ?_ | refine goes_sk ?_ ?_ | refine goes_bl ?_ ?_ | refine goes_lo ?_ ?_ | refine goes_ib ?_ ?_ | refine goes_il ?_ ?_ | refine goes_rt ?_ ?_ | refine goes_en ?_ ?_); exact termsM _ _ _ _ _; intro _ h₁; replace hF := (KB.rely hF) h₁; clear h₁) | (with_reducible refine goes_rg ?_ ?_; exact termsM _ _ _ _ _; intro _ h₁; replace hF := (KB.rely hF) h₁; clear h₁; simp only [List.size_toArray, List.length_cons, List.length_nil, Nat.reduceAdd, Nat.zero_add, List.range, List.range.loop]))
    (refine Goes.step rfl (fun w₁ h₁ => ?_); replace hF := (KB.rely hF) h₁; clear h₁; refine goes_oper_k rfl rfl hk (fun K hK => ?_); skip; go_simp; refine hK _ _ ⟨DM_same (fun e he => ?_), ?_⟩; (focus (have hm := mem_listed he; (simp [go_sem, *] at hm); (try (subst hm; exact hv _)))); (clear hK K); (try walk_nrm))
    (refine Goes.step rfl (fun w₁ h₁ => ?_); replace hF := (KB.rely hF) h₁; clear h₁; refine goes_oper_k rfl rfl hk (fun K hK => ?_); skip; go_simp; refine hK _ _ ⟨DM_same (fun e he => ?_), ?_⟩; (focus (have hm := mem_listed he; (simp [go_sem, *] at hm); (try (subst hm; exact hv _)))); (clear hK K); (try walk_nrm))
    (refine Goes.step rfl (fun w₁ h₁ => ?_); replace hF := (KB.rely hF) h₁; clear h₁; refine goes_oper_k rfl rfl hk (fun K hK => ?_); skip; go_simp; refine hK _ _ ⟨DM_same (fun e he => ?_), ?_⟩; (focus (have hm := mem_listed he; (simp [go_sem, *] at hm); (try (subst hm; exact hv _)))); (clear hK K); (try walk_nrm))
    (refine Goes.step rfl (fun w₁ h₁ => ?_); replace hF := (KB.rely hF) h₁; clear h₁; refine goes_oper_k rfl rfl hk (fun K hK => ?_); skip; go_simp; refine hK _ _ ⟨DM_same (fun e he => ?_), ?_⟩; (focus (have hm := mem_listed he; (simp [go_sem, *] at hm); (try (subst hm; exact hv _)))); (clear hK K); (try walk_nrm))
    (refine Goes.step rfl (fun w₁ h₁ => ?_); replace hF := (KB.rely hF) h₁; clear h₁; refine goes_oper_k rfl rfl hk (fun K hK => ?_); have hc := hPv _ hF; have hv := hPe _ hF; go_simp; refine hK _ _ ⟨DM_same (fun e he => ?_), ?_⟩; (focus (have hm := mem_listed he; (simp [go_sem, *] at hm); (try (subst hm; exact hv _)))); (clear hK K); (try walk_nrm))
    refine Goes.mono (n := (q + 130 * r + 60) + 30 + 3) ?_ (by omega)
    refine Goes.call (termsM _ _ _ _ _) rfl rfl hk rfl (nf := 30) (by (simp only [List.map_toArray, List.map_cons, List.map_nil, Act.eval, Array.getD_eq_getD_getElem?, List.getElem?_toArray, List.getElem?_cons_succ, List.getElem?_cons_zero, Option.getD_some]); exact ints_c Wg [] [] [] (by simp) ((hF.pr hPR).ir _ hjM) (hpc _ hjM) (hp8 _ hjM) (by simp) (by simp)) ?_
    intro v w' hK
    have hF := hF.copy hK
    clear hK
    try walk_nrm
    refine goes_pushL (fun h => (by cases h)) (by simp) (d := 29) (x := .tmp 28) (s := .tmp 23) (out := out) (u := v) hk rfl rfl rfl rfl rfl (by obtain ⟨a, c, rfl, _⟩ := own_slice hF.row; exact ⟨_, _, _, rfl⟩) rfl (fun _ => rfl) rfl (fun _ => rfl) (fun _ => rfl) hF.kb.own hF.kb.sz (by omega)
      (fun k hk => by simp) (by simp) (by simp) fun v1 v' w' hP _ => ?_
    have hF := hF.push hP
    clear hP
    try walk_nrm
    (refine Goes.step rfl (fun w₁ h₁ => ?_); replace hF := (KB.rely hF) h₁; clear h₁; refine goes_oper_k rfl rfl hk (fun K hK => ?_); skip; go_simp; refine hK _ _ ⟨DM_same (fun e he => ?_), ?_⟩; (focus (have hm := mem_listed he; (simp [go_sem, *] at hm); (try (subst hm; exact hv _)))); (clear hK K); (try walk_nrm))
    (first | ((with_reducible first | refine goes_rend ?_ ?_ | refine goes_sq ?_ ?_ | refine goes_sk ?_ ?_ | refine goes_bl ?_ ?_ | refine goes_lo ?_ ?_ | refine goes_ib ?_ ?_ | refine goes_il ?_ ?_ | refine goes_rt ?_ ?_ | refine goes_en ?_ ?_); exact termsM _ _ _ _ _; intro _ h₁; replace hF := (KB.rely hF) h₁; clear h₁) | (with_reducible refine goes_rg ?_ ?_; exact termsM _ _ _ _ _; intro _ h₁; replace hF := (KB.rely hF) h₁; clear h₁; simp only [List.size_toArray, List.length_cons, List.length_nil, Nat.reduceAdd, Nat.zero_add, List.range, List.range.loop]))
    (first | ((with_reducible first | refine goes_rend ?_ ?_ | refine goes_sq ?_ ?_ | refine goes_sk ?_ ?_ | refine goes_bl ?_ ?_ | refine goes_lo ?_ ?_ | refine goes_ib ?_ ?_ | refine goes_il ?_ ?_ | refine goes_rt ?_ ?_ | refine goes_en ?_ ?_); exact termsM _ _ _ _ _; intro _ h₁; replace hF := (KB.rely hF) h₁; clear h₁) | (with_reducible refine goes_rg ?_ ?_; exact termsM _ _ _ _ _; intro _ h₁; replace hF := (KB.rely hF) h₁; clear h₁; simp only [List.size_toArray, List.length_cons, List.length_nil, Nat.reduceAdd, Nat.zero_add, List.range, List.range.loop]))
    (first | ((with_reducible first | refine goes_rend ?_ ?_ | refine goes_sq ?_ ?_ | refine goes_sk ?_ ?_ | refine goes_bl ?_ ?_ | refine goes_lo ?_ ?_ | refine goes_ib ?_ ?_ | refine goes_il ?_ ?_ | refine goes_rt ?_ ?_ | refine goes_en ?_ ?_); exact termsM _ _ _ _ _; intro _ h₁; replace hF := (KB.rely hF) h₁; clear h₁) | (with_reducible refine goes_rg ?_ ?_; exact termsM _ _ _ _ _; intro _ h₁; replace hF := (KB.rely hF) h₁; clear h₁; simp only [List.size_toArray, List.length_cons, List.length_nil, Nat.reduceAdd, Nat.zero_add, List.range, List.range.loop]))
    (refine Goes.step rfl (fun w₁ h₁ => ?_); replace hF := (KB.rely hF) h₁; clear h₁; refine goes_oper_k rfl rfl hk (fun K hK => ?_); skip; go_simp; refine hK _ _ ⟨DM_same (fun e he => ?_), ?_⟩; (focus (have hm := mem_listed he; (simp [go_sem, *] at hm); (try (subst hm; exact hv _)))); (clear hK K); (try walk_nrm))
    (refine Goes.step rfl (fun w₁ h₁ => ?_); replace hF := (KB.rely hF) h₁; clear h₁; refine goes_oper_k rfl rfl hk (fun K hK => ?_); skip; go_simp; refine hK _ _ ⟨DM_same (fun e he => ?_), ?_⟩; (focus (have hm := mem_listed he; (simp [go_sem, *] at hm); (try (subst hm; exact hv _)))); (clear hK K); (try walk_nrm))
    (refine Goes.step rfl (fun w₁ h₁ => ?_); replace hF := (KB.rely hF) h₁; clear h₁; refine goes_oper_k rfl rfl hk (fun K hK => ?_); skip; go_simp; refine hK _ _ ⟨DM_same (fun e he => ?_), ?_⟩; (focus (have hm := mem_listed he; (simp [go_sem, *] at hm); (try (subst hm; exact hv _)))); (clear hK K); (try walk_nrm))
    (first | ((with_reducible first | refine goes_rend ?_ ?_ | refine goes_sq ?_ ?_ | refine goes_sk ?_ ?_ | refine goes_bl ?_ ?_ | refine goes_lo ?_ ?_ | refine goes_ib ?_ ?_ | refine goes_il ?_ ?_ | refine goes_rt ?_ ?_ | refine goes_en ?_ ?_); exact termsM _ _ _ _ _; intro _ h₁; replace hF := (KB.rely hF) h₁; clear h₁) | (with_reducible refine goes_rg ?_ ?_; exact termsM _ _ _ _ _; intro _ h₁; replace hF := (KB.rely hF) h₁; clear h₁; simp only [List.size_toArray, List.length_cons, List.length_nil, Nat.reduceAdd, Nat.zero_add, List.range, List.range.loop]))
    (first | ((with_reducible first | refine goes_rend ?_ ?_ | refine goes_sq ?_ ?_ | refine goes_sk ?_ ?_ | refine goes_bl ?_ ?_ | refine goes_lo ?_ ?_ | refine goes_ib ?_ ?_ | refine goes_il ?_ ?_ | refine goes_rt ?_ ?_ | refine goes_en ?_ ?_); exact termsM _ _ _ _ _; intro _ h₁; replace hF := (KB.rely hF) h₁; clear h₁) | (with_reducible refine goes_rg ?_ ?_; exact termsM _ _ _ _ _; intro _ h₁; replace hF := (KB.rely hF) h₁; clear h₁; simp only [List.size_toArray, List.length_cons, List.length_nil, Nat.reduceAdd, Nat.zero_add, List.range, List.range.loop]))
    refine Goes.mono (n := q + 130 * r) ?_ (by omega)
    exact ih _ (vs ++ [v]) _ _ _ _ _ _ _ _ _ _ _ _ _ _ _ _ _ _ _ _ _ _ _ _ _ _ _ _ _ _ _ _ _ _ _ _ _ _ _ _ _ _ _ _ _ _ _ _ _ _ _ _ _ _ _ _ _ _ _ _ _ _ _ _ _ _ _ (by simp) hF
end
end Go.Proofs.Ytplndihadjfliaa.Mix
/-
  CREW: CrewMerge's calls of Merge.
-/
set_option linter.unusedSimpArgs false
set_option linter.unusedVariables false
set_option maxHeartbeats 2000000
namespace Go.Proofs.Ytplndihadjfliaa.Mix
open Go Go.Conc Go.ConcN Go.Proofs Go.RowKit

section
variable (Wg : Nat) (T ch GG : List Nat) (hGc : ∀ b ∈ GG, b ∈ ch)
set_option maxRecDepth 100000 in
theorem refm_nil_c {pA tA : Option Addr} {M pcap tn tcap : Nat} {w0 : World} (hm : 64 < M) :
    CallsC Try.prog true (RC (0, false) Wg ch) (DM (0, false) Wg T ch GG) 13 #[.slice pA M pcap, .slice tA tn tcap] 40 w0 fun v w' => v = .slice none 0 0 ∧ RC (0, false) Wg ch w0 w' := by
  refine callsC_of_wpC Try.func13 (by simp [Try.f13]) (show Try.f13.body = some body13 by simp [Try.f13, body13]) ?_
  have hF : RC (0, false) Wg ch w0 w0 := RC.refl _ _
  have hm' : (64 : Int) < (M : Int) := by omega
  have e : (#[.slice pA M pcap, .slice tA tn tcap] : Array Value) ++ Array.replicate (Try.f13.ntmps - (#[.slice pA M pcap, .slice tA tn tcap] : Array Value).size) undef = #[.slice pA M pcap, .slice tA tn tcap, undef, undef, undef, undef, undef, undef, undef, undef, undef, undef, undef, undef, undef, undef, undef, undef, undef, undef, undef, undef, undef, undef, undef, undef, undef, undef, undef, undef, undef, undef, undef, undef, undef, undef, undef, undef, undef, undef, undef, undef, undef, undef, undef, undef, undef, undef, undef, undef, undef, undef, undef, undef, undef, undef, undef, undef, undef, undef, undef, undef] := by simp only [Try.f13]; walk_nrm
  rw [e]
  intro b k cs Stop q hb hk hc
  have hfin : ∀ (t : Array Value) (w' : World) (todo : List Item), t.getD 4 undef = .slice none 0 0 → RC (0, false) Wg ch w0 w' → Goes Try.prog true (RC (0, false) Wg ch) (DM (0, false) Wg T ch GG) Stop q (G { b.at ⟨t, []⟩ todo with mode := .returning } cs) w' :=
    fun t w' todo h h' => hc .ret ⟨t, []⟩ w' ⟨rfl, _, resultsC_tmp (t := 4) (by simp only [Try.f13]) t, h, h'⟩ todo
  clear hc e
  simp only [body13, Try.f13, Option.getD_some]
  repeat (first | (first | ((with_reducible first | refine goes_rend ?_ ?_ | refine goes_sq ?_ ?_ | refine goes_sk ?_ ?_ | refine goes_bl ?_ ?_ | refine goes_lo ?_ ?_ | refine goes_ib ?_ ?_ | refine goes_il ?_ ?_ | refine goes_rt ?_ ?_ | refine goes_en ?_ ?_); exact termsM _ _ _ _ _; intro _ h₁; replace hF := (RC.trans hF) h₁; clear h₁) | (with_reducible refine goes_rg ?_ ?_; exact termsM _ _ _ _ _; intro _ h₁; replace hF := (RC.trans hF) h₁; clear h₁; simp only [List.size_toArray, List.length_cons, List.length_nil, Nat.reduceAdd, Nat.zero_add, List.range, List.range.loop])) | (refine Goes.step rfl (fun w₁ h₁ => ?_); replace hF := (RC.trans hF) h₁; clear h₁; refine goes_oper_k rfl rfl hk (fun K hK => ?_); skip; go_simp; refine hK _ _ ⟨DM_same (fun e he => ?_), ?_⟩; (focus (have hm := mem_listed he; (simp [go_sem, *] at hm); (try (subst hm; exact hv _)))); (clear hK K); (try walk_nrm)))
  (refine goes_cd (termsM (0, false) Wg T ch GG) true rfl (fun _ h₁ => ?_); replace hF := (RC.trans hF) h₁; clear h₁; simp only [if_true, if_false, Bool.false_eq_true, ↓reduceIte])
  repeat (first | (first | ((with_reducible first | refine goes_rend ?_ ?_ | refine goes_sq ?_ ?_ | refine goes_sk ?_ ?_ | refine goes_bl ?_ ?_ | refine goes_lo ?_ ?_ | refine goes_ib ?_ ?_ | refine goes_il ?_ ?_ | refine goes_rt ?_ ?_ | refine goes_en ?_ ?_); exact termsM _ _ _ _ _; intro _ h₁; replace hF := (RC.trans hF) h₁; clear h₁) | (with_reducible refine goes_rg ?_ ?_; exact termsM _ _ _ _ _; intro _ h₁; replace hF := (RC.trans hF) h₁; clear h₁; simp only [List.size_toArray, List.length_cons, List.length_nil, Nat.reduceAdd, Nat.zero_add, List.range, List.range.loop])) | (refine Goes.step rfl (fun w₁ h₁ => ?_); replace hF := (RC.trans hF) h₁; clear h₁; refine goes_oper_k rfl rfl hk (fun K hK => ?_); skip; go_simp; refine hK _ _ ⟨DM_same (fun e he => ?_), ?_⟩; (focus (have hm := mem_listed he; (simp [go_sem, *] at hm); (try (subst hm; exact hv _)))); (clear hK K); (try walk_nrm)))
  refine Goes.mono (n := q) ?_ (by omega)
  exact hfin _ _ _ rfl hF

set_option maxRecDepth 100000 in
theorem merge_nil_c {pA tA : Option Addr} {M pcap tn tcap : Nat} {w0 : World} (hm : 64 < M) :
    CallsC Try.prog true (RC (0, false) Wg ch) (DM (0, false) Wg T ch GG) 14 #[.slice pA M pcap, .slice tA tn tcap] 40 w0 fun v w' => v = .slice none 0 0 ∧ RC (0, false) Wg ch w0 w' := by
  refine callsC_of_wpC Try.func14 (by simp [Try.f14]) (show Try.f14.body = some body14 by simp [Try.f14, body14]) ?_
  have hF : RC (0, false) Wg ch w0 w0 := RC.refl _ _
  have hm' : (64 : Int) < (M : Int) := by omega
  have e : (#[.slice pA M pcap, .slice tA tn tcap] : Array Value) ++ Array.replicate (Try.f14.ntmps - (#[.slice pA M pcap, .slice tA tn tcap] : Array Value).size) undef = #[.slice pA M pcap, .slice tA tn tcap, undef, undef, undef, undef, undef, undef, undef, undef, undef, undef, undef, undef, undef, undef, undef, undef, undef, undef, undef, undef, undef, undef, undef, undef, undef, undef, undef, undef, undef, undef, undef, undef, undef, undef, undef, undef, undef, undef, undef, undef, undef, undef, undef, undef, undef, undef, undef, undef, undef, undef, undef, undef, undef, undef, undef, undef, undef, undef, undef, undef, undef, undef, undef, undef, undef, undef, undef, undef, undef, undef] := by simp only [Try.f14]; walk_nrm
  rw [e]
  intro b k cs Stop q hb hk hc
  have hfin : ∀ (t : Array Value) (w' : World) (todo : List Item), t.getD 4 undef = .slice none 0 0 → RC (0, false) Wg ch w0 w' → Goes Try.prog true (RC (0, false) Wg ch) (DM (0, false) Wg T ch GG) Stop q (G { b.at ⟨t, []⟩ todo with mode := .returning } cs) w' :=
    fun t w' todo h h' => hc .ret ⟨t, []⟩ w' ⟨rfl, _, resultsC_tmp (t := 4) (by simp only [Try.f14]) t, h, h'⟩ todo
  clear hc e
  simp only [body14, Try.f14, Option.getD_some]
  repeat (first | (first | ((with_reducible first | refine goes_rend ?_ ?_ | refine goes_sq ?_ ?_ | refine goes_sk ?_ ?_ | refine goes_bl ?_ ?_ | refine goes_lo ?_ ?_ | refine goes_ib ?_ ?_ | refine goes_il ?_ ?_ | refine goes_rt ?_ ?_ | refine goes_en ?_ ?_); exact termsM _ _ _ _ _; intro _ h₁; replace hF := (RC.trans hF) h₁; clear h₁) | (with_reducible refine goes_rg ?_ ?_; exact termsM _ _ _ _ _; intro _ h₁; replace hF := (RC.trans hF) h₁; clear h₁; simp only [List.size_toArray, List.length_cons, List.length_nil, Nat.reduceAdd, Nat.zero_add, List.range, List.range.loop])) | (refine Goes.step rfl (fun w₁ h₁ => ?_); replace hF := (RC.trans hF) h₁; clear h₁; refine goes_oper_k rfl rfl hk (fun K hK => ?_); skip; go_simp; refine hK _ _ ⟨DM_same (fun e he => ?_), ?_⟩; (focus (have hm := mem_listed he; (simp [go_sem, *] at hm); (try (subst hm; exact hv _)))); (clear hK K); (try walk_nrm)))
  (refine goes_cd (termsM (0, false) Wg T ch GG) true rfl (fun _ h₁ => ?_); replace hF := (RC.trans hF) h₁; clear h₁; simp only [if_true, if_false, Bool.false_eq_true, ↓reduceIte])
  repeat (first | (first | ((with_reducible first | refine goes_rend ?_ ?_ | refine goes_sq ?_ ?_ | refine goes_sk ?_ ?_ | refine goes_bl ?_ ?_ | refine goes_lo ?_ ?_ | refine goes_ib ?_ ?_ | refine goes_il ?_ ?_ | refine goes_rt ?_ ?_ | refine goes_en ?_ ?_); exact termsM _ _ _ _ _; intro _ h₁; replace hF := (RC.trans hF) h₁; clear h₁) | (with_reducible refine goes_rg ?_ ?_; exact termsM _ _ _ _ _; intro _ h₁; replace hF := (RC.trans hF) h₁; clear h₁; simp only [List.size_toArray, List.length_cons, List.length_nil, Nat.reduceAdd, Nat.zero_add, List.range, List.range.loop])) | (refine Goes.step rfl (fun w₁ h₁ => ?_); replace hF := (RC.trans hF) h₁; clear h₁; refine goes_oper_k rfl rfl hk (fun K hK => ?_); skip; go_simp; refine hK _ _ ⟨DM_same (fun e he => ?_), ?_⟩; (focus (have hm := mem_listed he; (simp [go_sem, *] at hm); (try (subst hm; exact hv _)))); (clear hK K); (try walk_nrm)))
  refine Goes.mono (n := q) ?_ (by omega)
  exact hfin _ _ _ rfl hF

end

section
variable {W : World} {T ch GG : List Nat} {NW N1 : Nat} {want : Value} {ref : List Int} {pA : Option Addr} {M : Nat} {pa : Nat → Option Addr} {pn pc : Nat → Nat} {zs : Nat → List Int} {tA : Option Addr} {tn : Nat} {ts : List Int} {ans : List (Value × Nat × Nat)} {w w₁ : World} {N pcap tcap : Nat} {Post : List Nat → List Nat → List Nat → Goroutine → World → Prop} {a : Act} {ops : Array Oper} {i : Nat} {rest : List Nat} {o : Oper} {args : Array Operand} {ats : Array TypeId} {k : List Item}
/-- THE CALL OF MERGE, the senders started. -/
theorem call_merge (b : Frame) (csC : List Frame) (hb : b.kind ≠ .early) (ho : ops[i]? = some o) (hw : Region.wanted o (yielded ops a.tmps) = true) (hop : o.op = .call { callee := .value (.func 14), args := args, argTypes := ats }) (hargs : args.map a.eval = #[.slice pA M pcap, .slice tA tn tcap])
    (hM : M ≤ 64) (hn8 : tn * 8 ≤ 140737488355328) (href : mout M zs ts = ref) (hF : CMS W T ch GG NW N1 want ref pA M pa pn pc zs tA tn ts (ans) w) (hN : w.heap.size = N)
    (hPost : ∀ T2 ch2 GG2 out lo hi w2, N ≤ lo → CMS W T2 ch2 GG2 NW N1 want ref pA M pa pn pc zs tA tn ts (ans ++ [(out, lo, hi)]) w2 → Post T2 ch2 GG2 (G (b.at (a.put o.dst out) (.inRegion ops rest :: k)) csC) w2) :
    GoM Post N T ch GG (msc (N + 1) N M (fun p => N + 3 + p) (fun p => vblk (pa p) (pn p)) (fun p => (zs p).map iv) 0 ((mrun M zs ts).map lift) .mg) (0 + 41) (G (b.at a (.inRegion ops (i :: rest) :: k)) csC) w := by
  refine goes_in (n := 0 + 40) (termsM (47, true) N T ch GG) ho hw hb hop Try.func14 (by simp [Try.f14]) (c := body14) (by simp [Try.f14, body14]) (fun w₁ h₁ => ?_)
  replace hF := hF.rely h₁
  have hN : w₁.heap.size = N := h₁.size.trans hN
  clear h₁
  rw [hargs]
  have e : (#[.slice pA M pcap, .slice tA tn tcap] : Array Value) ++ Array.replicate (Try.f14.ntmps - (#[.slice pA M pcap, .slice tA tn tcap] : Array Value).size) undef = #[.slice pA M pcap, .slice tA tn tcap, undef, undef, undef, undef, undef, undef, undef, undef, undef, undef, undef, undef, undef, undef, undef, undef, undef, undef, undef, undef, undef, undef, undef, undef, undef, undef, undef, undef, undef, undef, undef, undef, undef, undef, undef, undef, undef, undef, undef, undef, undef, undef, undef, undef, undef, undef, undef, undef, undef, undef, undef, undef, undef, undef, undef, undef, undef, undef, undef, undef, undef, undef, undef, undef, undef, undef, undef, undef, undef, undef] := by simp only [Try.f14]; walk_nrm
  rw [e]
  have hs := hF.sz
  subst hN
  exact merge_goes w₁.heap.size w₁ ch GG T pA M pcap pa pn pc tA tn tcap _ (Post := Post) (fun b hb => by have := (hF.tb b hb).2; omega) (fun c hc => (hF.chb c hc).2) hF.gc (hF.rp.parts hM) ts hF.rt hn8 b a ops i rest k csC rfl
    (fun out w2 h => by
      rw [ho]
      rw [href] at h
      exact hPost _ _ _ out _ _ w2 (by omega) (hF.merge rfl h)) w₁ (RC.refl _ _)
/-- .. of too many parts. -/
theorem call_none (b : Frame) (csC : List Frame) (hb : b.kind ≠ .early) (ho : ops[i]? = some o) (hw : Region.wanted o (yielded ops a.tmps) = true) (hop : o.op = .call { callee := .value (.func 14), args := args, argTypes := ats }) (hargs : args.map a.eval = #[.slice pA M pcap, .slice tA tn tcap])
    (hM : 64 < M) (href : ref = []) (hF : CMS W T ch GG NW N1 want ref pA M pa pn pc zs tA tn ts (ans) w)
    (hPost : ∀ out lo hi w2, w.heap.size ≤ lo → CMS W T ch GG NW N1 want ref pA M pa pn pc zs tA tn ts (ans ++ [(out, lo, hi)]) w2 → Post T ch GG (G (b.at (a.put o.dst out) (.inRegion ops rest :: k)) csC) w2) :
    Goes Try.prog true (RC (0, false) N ch) (DM (0, false) N T ch GG) (AtEnd Post T ch GG) (0 + 40 + 3) (G (b.at a (.inRegion ops (i :: rest) :: k)) csC) w := by
  subst href
  refine Goes.call (termsM _ _ _ _ _) ho hw hb hop (nf := 40) (by rw [hargs]; exact merge_nil_c N T ch GG hM) fun v w2 hv => ?_
  obtain ⟨rfl, hr⟩ := hv
  exact Goes.stop fun w₃ h₃ => ⟨rfl, hPost _ _ _ w₃ (by rw [hr.size]; exact Nat.le_refl _) ((hF.none hr).rely h₃)⟩
end

end Go.Proofs.Ytplndihadjfliaa.Mix
/-
  CREW: CrewMerge's phases.
-/
set_option linter.unusedSimpArgs false
set_option linter.unusedVariables false
set_option maxHeartbeats 2000000
namespace Go.Proofs.Ytplndihadjfliaa.Mix
open Go Go.Conc Go.ConcN Go.Proofs Go.RowKit

def PM0 (W : World) (qA : Option Addr) (M pcap : Nat) (uA : Option Addr) (tn tcap : Nat) (zs : Nat → List Int) (ts : List Int) : List Nat → List Nat → List Nat → Goroutine → World → Prop := fun T ch GG g w => ∃ (want : Value) (NW N1 : Nat) (pA tA : Option Addr) (pcap2 tcap2 : Nat) (pa : Nat → Option Addr) (pc : Nat → Nat)  (u : Nat → Value), CMS W T ch GG NW N1 want (refM M zs ts) pA M pa (fun p => (zs p).length) pc zs tA tn ts [] w ∧
  g = G ((base 5).at ⟨#[.slice qA M pcap, .slice uA tn tcap, u 2, u 3, u 4, want, .slice pA M pcap2, u 7, .slice tA tn tcap2, u 9, u 10, u 11, u 12, u 13, u 14, u 15, u 16, u 17, u 18, u 19, u 20, u 21, u 22, u 23, u 24, u 25, u 26, u 27, u 28, u 29, u 30, u 31, u 32, .slice pA M pcap2, .slice tA tn tcap2, u 35, u 36, u 37, u 38, u 39, u 40, u 41, u 42, u 43, u 44, u 45, u 46, u 47, u 48, u 49, u 50, u 51, u 52, u 53, u 54, u 55, u 56, u 57, u 58, u 59, u 60, u 61, u 62, u 63, u 64, u 65, u 66, u 67, u 68, u 69, u 70], []⟩ [.inRegion ops5c [2, 3], .code t5d]) []
def PM1 (W : World) (qA : Option Addr) (M pcap : Nat) (uA : Option Addr) (tn tcap : Nat) (zs : Nat → List Int) (ts : List Int) : List Nat → List Nat → List Nat → Goroutine → World → Prop := fun T ch GG g w => ∃ (want : Value) (NW N1 : Nat) (pA tA : Option Addr) (pcap2 tcap2 : Nat) (pa : Nat → Option Addr) (pc : Nat → Nat) (o1 : Value) (l1 h1 : Nat) (u : Nat → Value), CMS W T ch GG NW N1 want (refM M zs ts) pA M pa (fun p => (zs p).length) pc zs tA tn ts [(o1, l1, h1)] w ∧
  g = G ((base 5).at ⟨#[.slice qA M pcap, .slice uA tn tcap, u 2, u 3, u 4, want, .slice pA M pcap2, u 7, .slice tA tn tcap2, u 9, u 10, u 11, u 12, u 13, u 14, u 15, u 16, u 17, u 18, u 19, u 20, u 21, u 22, u 23, u 24, u 25, u 26, u 27, u 28, u 29, u 30, u 31, u 32, u 33, u 34, o1, u 36, u 37, u 38, u 39, u 40, u 41, u 42, u 43, u 44, u 45, u 46, u 47, u 48, u 49, u 50, u 51, u 52, u 53, u 54, u 55, u 56, u 57, u 58, u 59, u 60, u 61, u 62, u 63, u 64, u 65, u 66, u 67, u 68, u 69, u 70], []⟩ [.inRegion ops5c [3], .code t5d]) []
def PM2 (W : World) (qA : Option Addr) (M pcap : Nat) (uA : Option Addr) (tn tcap : Nat) (zs : Nat → List Int) (ts : List Int) : List Nat → List Nat → List Nat → Goroutine → World → Prop := fun T ch GG g w => ∃ (want : Value) (NW N1 : Nat) (pA tA : Option Addr) (pcap2 tcap2 : Nat) (pa : Nat → Option Addr) (pc : Nat → Nat) (o1 o2 : Value) (l1 h1 l2 h2 : Nat) (u : Nat → Value), h1 ≤ l2 ∧ CMS W T ch GG NW N1 want (refM M zs ts) pA M pa (fun p => (zs p).length) pc zs tA tn ts ([(o1, l1, h1)] ++ [(o2, l2, h2)]) w ∧
  g = G ((base 5).at ⟨#[.slice qA M pcap, .slice uA tn tcap, u 2, u 3, u 4, want, .slice pA M pcap2, u 7, .slice tA tn tcap2, o1, u 10, u 11, u 12, u 13, u 14, u 15, u 16, u 17, u 18, u 19, u 20, u 21, u 22, u 23, u 24, u 25, u 26, u 27, u 28, u 29, u 30, u 31, u 32, u 33, u 34, u 35, u 36, u 37, o2, u 39, u 40, u 41, u 42, u 43, u 44, u 45, u 46, u 47, u 48, u 49, u 50, u 51, u 52, u 53, u 54, u 55, u 56, u 57, u 58, u 59, u 60, u 61, u 62, u 63, u 64, u 65, u 66, u 67, u 68, u 69, u 70], []⟩ [.inRegion ops5d [3], .code t5e]) []
def PM3 (W : World) (qA : Option Addr) (M pcap : Nat) (uA : Option Addr) (tn tcap : Nat) (zs : Nat → List Int) (ts : List Int) : List Nat → List Nat → List Nat → Goroutine → World → Prop := fun T ch GG g w => ∃ (want : Value) (NW N1 : Nat) (pA tA : Option Addr) (pcap2 tcap2 : Nat) (pa : Nat → Option Addr) (pc : Nat → Nat) (o1 o2 o3 : Value) (l1 h1 l2 h2 l3 h3 : Nat) (u : Nat → Value), h1 ≤ l2 ∧ h2 ≤ l3 ∧ CMS W T ch GG NW N1 want (refM M zs ts) pA M pa (fun p => (zs p).length) pc zs tA tn ts ([(o1, l1, h1)] ++ [(o2, l2, h2)] ++ [(o3, l3, h3)]) w ∧
  g = G ((base 5).at ⟨#[.slice qA M pcap, .slice uA tn tcap, u 2, u 3, u 4, want, .slice pA M pcap2, u 7, .slice tA tn tcap2, o1, o2, u 11, u 12, u 13, u 14, u 15, u 16, u 17, u 18, u 19, u 20, u 21, u 22, u 23, u 24, u 25, u 26, u 27, u 28, u 29, u 30, u 31, u 32, u 33, u 34, u 35, u 36, u 37, u 38, u 39, u 40, o3, u 42, u 43, u 44, u 45, u 46, u 47, u 48, u 49, u 50, u 51, u 52, u 53, u 54, u 55, u 56, u 57, u 58, u 59, u 60, u 61, u 62, u 63, u 64, u 65, u 66, u 67, u 68, u 69, u 70], []⟩ [.inRegion ops5e [3], .code t5f]) []

set_option maxRecDepth 100000 in
theorem row1 (W : World) (qA : Option Addr) (M pcap : Nat) (uA : Option Addr) (tn tcap : Nat) (zs : Nat → List Int) (ts : List Int) (hM : M ≤ 64) (hn8 : tn * 8 ≤ 140737488355328) (T ch GG : List Nat) (g : Goroutine) (w₀ : World) (h : AtEnd (PM0 W qA M pcap uA tn tcap zs ts) T ch GG g w₀) :
    ∃ (pa : Nat → Option Addr), (∀ b ∈ ch, b < w₀.heap.size) ∧ FollowM Try.prog zi (47, true) w₀.heap.size (PM1 W qA M pcap uA tn tcap zs ts) (msc (w₀.heap.size + 1) w₀.heap.size M (fun p => w₀.heap.size + 3 + p) (fun p => vblk (pa p) ((zs p).length)) (fun p => (zs p).map iv) 0 ((mrun M zs ts).map lift) .mg) T ch GG g w₀ := by
  obtain ⟨_, want, NW, N1, pA, tA, pcap2, tcap2, pa, pc, u, hF, rfl⟩ := h
  refine ⟨pa, fun b hb => (hF.chb b hb).2, followM_iff.2 ⟨(0 + 41) + 20, ?_⟩⟩
  have href : mout M zs ts = refM M zs ts := by rw [refM, if_neg (by omega), mout_doc]
  obtain ⟨N, hN⟩ : ∃ N, w₀.heap.size = N := ⟨_, rfl⟩
  have hN' := hN
  simp only [hN]
  simp only [ops5c, ops5d, ops5e, t5f, t5e, t5d, t5c, t5b, t5a, body5, Try.f5, Option.getD_some]
  refine Goes.mono (n := 0 + 41) ?_ (by omega)
  refine call_merge (pcap := pcap2) (tcap := tcap2) (base 5) [] (by decide) rfl rfl rfl (by simp [Act.eval]) hM hn8 href hF hN (fun T2 ch2 GG2 out lo hi w2 hlo hC => ?_)
  refine ⟨want, NW, N1, pA, tA, pcap2, tcap2, pa, pc, out, lo, hi, fun i => (#[.slice qA M pcap, .slice uA tn tcap, u 2, u 3, u 4, want, .slice pA M pcap2, u 7, .slice tA tn tcap2, u 9, u 10, u 11, u 12, u 13, u 14, u 15, u 16, u 17, u 18, u 19, u 20, u 21, u 22, u 23, u 24, u 25, u 26, u 27, u 28, u 29, u 30, u 31, u 32, .slice pA M pcap2, .slice tA tn tcap2, u 35, u 36, u 37, u 38, u 39, u 40, u 41, u 42, u 43, u 44, u 45, u 46, u 47, u 48, u 49, u 50, u 51, u 52, u 53, u 54, u 55, u 56, u 57, u 58, u 59, u 60, u 61, u 62, u 63, u 64, u 65, u 66, u 67, u 68, u 69, u 70] : Array Value).getD i undef, hC, ?_⟩
  simp only [ops5c, ops5d, ops5e, t5f, t5e, t5d, t5c, t5b, t5a, body5, Try.f5, Option.getD_some]
  rfl

set_option maxRecDepth 100000 in
theorem nil1 (W : World) (qA : Option Addr) (M pcap : Nat) (uA : Option Addr) (tn tcap : Nat) (zs : Nat → List Int) (ts : List Int) (hM : 64 < M) (N : Nat) (T ch GG : List Nat) (g : Goroutine) (w₀ : World) (h : AtEnd (PM0 W qA M pcap uA tn tcap zs ts) T ch GG g w₀) :
    FollowM Try.prog zi (0, false) N (PM1 W qA M pcap uA tn tcap zs ts) [] T ch GG g w₀ := by
  obtain ⟨_, want, NW, N1, pA, tA, pcap2, tcap2, pa, pc, u, hF, rfl⟩ := h
  refine followM_iff.2 ⟨(0 + 40 + 3) + 20, ?_⟩
  have href : refM M zs ts = [] := by rw [refM, if_pos (by omega)]
  show Goes Try.prog true (RC (0, false) N ch) (DM (0, false) N T ch GG) (AtEnd (PM1 W qA M pcap uA tn tcap zs ts) T ch GG) _ _ _
  simp only [ops5c, ops5d, ops5e, t5f, t5e, t5d, t5c, t5b, t5a, body5, Try.f5, Option.getD_some]
  refine Goes.mono (n := 0 + 40 + 3) ?_ (by omega)
  refine call_none (pcap := pcap2) (tcap := tcap2) (base 5) [] (by decide) rfl rfl rfl (by simp [Act.eval]) hM href hF (fun out lo hi w2 hlo hC => ?_)
  refine ⟨want, NW, N1, pA, tA, pcap2, tcap2, pa, pc, out, lo, hi, fun i => (#[.slice qA M pcap, .slice uA tn tcap, u 2, u 3, u 4, want, .slice pA M pcap2, u 7, .slice tA tn tcap2, u 9, u 10, u 11, u 12, u 13, u 14, u 15, u 16, u 17, u 18, u 19, u 20, u 21, u 22, u 23, u 24, u 25, u 26, u 27, u 28, u 29, u 30, u 31, u 32, .slice pA M pcap2, .slice tA tn tcap2, u 35, u 36, u 37, u 38, u 39, u 40, u 41, u 42, u 43, u 44, u 45, u 46, u 47, u 48, u 49, u 50, u 51, u 52, u 53, u 54, u 55, u 56, u 57, u 58, u 59, u 60, u 61, u 62, u 63, u 64, u 65, u 66, u 67, u 68, u 69, u 70] : Array Value).getD i undef, hC, ?_⟩
  simp only [ops5c, ops5d, ops5e, t5f, t5e, t5d, t5c, t5b, t5a, body5, Try.f5, Option.getD_some]
  rfl


set_option maxRecDepth 100000 in
theorem row2 (W : World) (qA : Option Addr) (M pcap : Nat) (uA : Option Addr) (tn tcap : Nat) (zs : Nat → List Int) (ts : List Int) (hM : M ≤ 64) (hn8 : tn * 8 ≤ 140737488355328) (T ch GG : List Nat) (g : Goroutine) (w₀ : World) (h : AtEnd (PM1 W qA M pcap uA tn tcap zs ts) T ch GG g w₀) :
    ∃ (pa : Nat → Option Addr), (∀ b ∈ ch, b < w₀.heap.size) ∧ FollowM Try.prog zi (47, true) w₀.heap.size (PM2 W qA M pcap uA tn tcap zs ts) (msc (w₀.heap.size + 1) w₀.heap.size M (fun p => w₀.heap.size + 3 + p) (fun p => vblk (pa p) ((zs p).length)) (fun p => (zs p).map iv) 0 ((mrun M zs ts).map lift) .mg) T ch GG g w₀ := by
  obtain ⟨_, want, NW, N1, pA, tA, pcap2, tcap2, pa, pc, o1, l1, h1, u, hF, rfl⟩ := h
  refine ⟨pa, fun b hb => (hF.chb b hb).2, followM_iff.2 ⟨(0 + 41) + 20, ?_⟩⟩
  have href : mout M zs ts = refM M zs ts := by rw [refM, if_neg (by omega), mout_doc]
  obtain ⟨N, hN⟩ : ∃ N, w₀.heap.size = N := ⟨_, rfl⟩
  have hN' := hN
  simp only [hN]
  simp only [ops5c, ops5d, ops5e, t5f, t5e, t5d, t5c, t5b, t5a, body5, Try.f5, Option.getD_some]
  (refine goes_vn (termsM (47, true) N T ch GG) (o1) rfl rfl (by decide) (fun _ => by go_simp; try (first | omega | (w_num; omega) | w_num | decide)) (fun _ => by simp [go_sem, *]) (fun _ h₁ => ?_); replace hF := CMS.rely hF h₁; have hN2 := h₁.size.trans hN; clear hN; have hN := hN2; clear hN2 h₁; (try walk_nrm))
  (repeat (first | ((with_reducible first | refine goes_rend ?_ ?_ | refine goes_sq ?_ ?_ | refine goes_sk ?_ ?_ | refine goes_bl ?_ ?_ | refine goes_lo ?_ ?_ | refine goes_ib ?_ ?_ | refine goes_il ?_ ?_ | refine goes_rt ?_ ?_ | refine goes_en ?_ ?_); exact termsM _ _ _ _ _; intro _ h₁; replace hF := CMS.rely hF h₁; have hN2 := h₁.size.trans hN; clear hN; have hN := hN2; clear hN2 h₁) | (with_reducible refine goes_rg ?_ ?_; exact termsM _ _ _ _ _; intro _ h₁; replace hF := CMS.rely hF h₁; have hN2 := h₁.size.trans hN; clear hN; have hN := hN2; clear hN2 h₁; simp only [List.size_toArray, List.length_cons, List.length_nil, Nat.reduceAdd, Nat.zero_add, List.range, List.range.loop])))
  (refine goes_vn (termsM (47, true) N T ch GG) (.slice pA M pcap2) rfl rfl (by decide) (fun _ => by go_simp; try (first | omega | (w_num; omega) | w_num | decide)) (fun _ => by simp [go_sem, *]) (fun _ h₁ => ?_); replace hF := CMS.rely hF h₁; have hN2 := h₁.size.trans hN; clear hN; have hN := hN2; clear hN2 h₁; (try walk_nrm))
  (refine goes_vn (termsM (47, true) N T ch GG) (.slice tA tn tcap2) rfl rfl (by decide) (fun _ => by go_simp; try (first | omega | (w_num; omega) | w_num | decide)) (fun _ => by simp [go_sem, *]) (fun _ h₁ => ?_); replace hF := CMS.rely hF h₁; have hN2 := h₁.size.trans hN; clear hN; have hN := hN2; clear hN2 h₁; (try walk_nrm))
  refine Goes.mono (n := 0 + 41) ?_ (by omega)
  refine call_merge (pcap := pcap2) (tcap := tcap2) (base 5) [] (by decide) rfl rfl rfl (by simp [Act.eval]) hM hn8 href hF hN (fun T2 ch2 GG2 out lo hi w2 hlo hC => ?_)
  refine ⟨want, NW, N1, pA, tA, pcap2, tcap2, pa, pc, o1, out, l1, h1, lo, hi, fun i => (#[.slice qA M pcap, .slice uA tn tcap, u 2, u 3, u 4, want, .slice pA M pcap2, u 7, .slice tA tn tcap2, u 9, u 10, u 11, u 12, u 13, u 14, u 15, u 16, u 17, u 18, u 19, u 20, u 21, u 22, u 23, u 24, u 25, u 26, u 27, u 28, u 29, u 30, u 31, u 32, u 33, u 34, o1, .slice pA M pcap2, .slice tA tn tcap2, u 38, u 39, u 40, u 41, u 42, u 43, u 44, u 45, u 46, u 47, u 48, u 49, u 50, u 51, u 52, u 53, u 54, u 55, u 56, u 57, u 58, u 59, u 60, u 61, u 62, u 63, u 64, u 65, u 66, u 67, u 68, u 69, u 70] : Array Value).getD i undef, (by have := (hF.ra o1 l1 h1 (by simp)).2.2.2.2; omega), hC, ?_⟩
  simp only [ops5c, ops5d, ops5e, t5f, t5e, t5d, t5c, t5b, t5a, body5, Try.f5, Option.getD_some]
  rfl

set_option maxRecDepth 100000 in
theorem nil2 (W : World) (qA : Option Addr) (M pcap : Nat) (uA : Option Addr) (tn tcap : Nat) (zs : Nat → List Int) (ts : List Int) (hM : 64 < M) (N : Nat) (T ch GG : List Nat) (g : Goroutine) (w₀ : World) (h : AtEnd (PM1 W qA M pcap uA tn tcap zs ts) T ch GG g w₀) :
    FollowM Try.prog zi (0, false) N (PM2 W qA M pcap uA tn tcap zs ts) [] T ch GG g w₀ := by
  obtain ⟨_, want, NW, N1, pA, tA, pcap2, tcap2, pa, pc, o1, l1, h1, u, hF, rfl⟩ := h
  refine followM_iff.2 ⟨(0 + 40 + 3) + 20, ?_⟩
  have href : refM M zs ts = [] := by rw [refM, if_pos (by omega)]
  show Goes Try.prog true (RC (0, false) N ch) (DM (0, false) N T ch GG) (AtEnd (PM2 W qA M pcap uA tn tcap zs ts) T ch GG) _ _ _
  simp only [ops5c, ops5d, ops5e, t5f, t5e, t5d, t5c, t5b, t5a, body5, Try.f5, Option.getD_some]
  (refine goes_vn (termsM (0, false) N T ch GG) (o1) rfl rfl (by decide) (fun _ => by go_simp; try (first | omega | (w_num; omega) | w_num | decide)) (fun _ => by simp [go_sem, *]) (fun _ h₁ => ?_); replace hF := CMS.rely hF h₁; clear h₁; (try walk_nrm))
  (repeat (first | ((with_reducible first | refine goes_rend ?_ ?_ | refine goes_sq ?_ ?_ | refine goes_sk ?_ ?_ | refine goes_bl ?_ ?_ | refine goes_lo ?_ ?_ | refine goes_ib ?_ ?_ | refine goes_il ?_ ?_ | refine goes_rt ?_ ?_ | refine goes_en ?_ ?_); exact termsM _ _ _ _ _; intro _ h₁; replace hF := CMS.rely hF h₁; clear h₁) | (with_reducible refine goes_rg ?_ ?_; exact termsM _ _ _ _ _; intro _ h₁; replace hF := CMS.rely hF h₁; clear h₁; simp only [List.size_toArray, List.length_cons, List.length_nil, Nat.reduceAdd, Nat.zero_add, List.range, List.range.loop])))
  (refine goes_vn (termsM (0, false) N T ch GG) (.slice pA M pcap2) rfl rfl (by decide) (fun _ => by go_simp; try (first | omega | (w_num; omega) | w_num | decide)) (fun _ => by simp [go_sem, *]) (fun _ h₁ => ?_); replace hF := CMS.rely hF h₁; clear h₁; (try walk_nrm))
  (refine goes_vn (termsM (0, false) N T ch GG) (.slice tA tn tcap2) rfl rfl (by decide) (fun _ => by go_simp; try (first | omega | (w_num; omega) | w_num | decide)) (fun _ => by simp [go_sem, *]) (fun _ h₁ => ?_); replace hF := CMS.rely hF h₁; clear h₁; (try walk_nrm))
  refine Goes.mono (n := 0 + 40 + 3) ?_ (by omega)
  refine call_none (pcap := pcap2) (tcap := tcap2) (base 5) [] (by decide) rfl rfl rfl (by simp [Act.eval]) hM href hF (fun out lo hi w2 hlo hC => ?_)
  refine ⟨want, NW, N1, pA, tA, pcap2, tcap2, pa, pc, o1, out, l1, h1, lo, hi, fun i => (#[.slice qA M pcap, .slice uA tn tcap, u 2, u 3, u 4, want, .slice pA M pcap2, u 7, .slice tA tn tcap2, u 9, u 10, u 11, u 12, u 13, u 14, u 15, u 16, u 17, u 18, u 19, u 20, u 21, u 22, u 23, u 24, u 25, u 26, u 27, u 28, u 29, u 30, u 31, u 32, u 33, u 34, o1, .slice pA M pcap2, .slice tA tn tcap2, u 38, u 39, u 40, u 41, u 42, u 43, u 44, u 45, u 46, u 47, u 48, u 49, u 50, u 51, u 52, u 53, u 54, u 55, u 56, u 57, u 58, u 59, u 60, u 61, u 62, u 63, u 64, u 65, u 66, u 67, u 68, u 69, u 70] : Array Value).getD i undef, (by have := (hF.ra o1 l1 h1 (by simp)).2.2.2.2; omega), hC, ?_⟩
  simp only [ops5c, ops5d, ops5e, t5f, t5e, t5d, t5c, t5b, t5a, body5, Try.f5, Option.getD_some]
  rfl


set_option maxRecDepth 100000 in
theorem row3 (W : World) (qA : Option Addr) (M pcap : Nat) (uA : Option Addr) (tn tcap : Nat) (zs : Nat → List Int) (ts : List Int) (hM : M ≤ 64) (hn8 : tn * 8 ≤ 140737488355328) (T ch GG : List Nat) (g : Goroutine) (w₀ : World) (h : AtEnd (PM2 W qA M pcap uA tn tcap zs ts) T ch GG g w₀) :
    ∃ (pa : Nat → Option Addr), (∀ b ∈ ch, b < w₀.heap.size) ∧ FollowM Try.prog zi (47, true) w₀.heap.size (PM3 W qA M pcap uA tn tcap zs ts) (msc (w₀.heap.size + 1) w₀.heap.size M (fun p => w₀.heap.size + 3 + p) (fun p => vblk (pa p) ((zs p).length)) (fun p => (zs p).map iv) 0 ((mrun M zs ts).map lift) .mg) T ch GG g w₀ := by
  obtain ⟨_, want, NW, N1, pA, tA, pcap2, tcap2, pa, pc, o1, o2, l1, h1, l2, h2, u, hord, hF, rfl⟩ := h
  refine ⟨pa, fun b hb => (hF.chb b hb).2, followM_iff.2 ⟨(0 + 41) + 20, ?_⟩⟩
  have href : mout M zs ts = refM M zs ts := by rw [refM, if_neg (by omega), mout_doc]
  obtain ⟨N, hN⟩ : ∃ N, w₀.heap.size = N := ⟨_, rfl⟩
  have hN' := hN
  simp only [hN]
  simp only [ops5c, ops5d, ops5e, t5f, t5e, t5d, t5c, t5b, t5a, body5, Try.f5, Option.getD_some]
  (refine goes_vn (termsM (47, true) N T ch GG) (o2) rfl rfl (by decide) (fun _ => by go_simp; try (first | omega | (w_num; omega) | w_num | decide)) (fun _ => by simp [go_sem, *]) (fun _ h₁ => ?_); replace hF := CMS.rely hF h₁; have hN2 := h₁.size.trans hN; clear hN; have hN := hN2; clear hN2 h₁; (try walk_nrm))
  (repeat (first | ((with_reducible first | refine goes_rend ?_ ?_ | refine goes_sq ?_ ?_ | refine goes_sk ?_ ?_ | refine goes_bl ?_ ?_ | refine goes_lo ?_ ?_ | refine goes_ib ?_ ?_ | refine goes_il ?_ ?_ | refine goes_rt ?_ ?_ | refine goes_en ?_ ?_); exact termsM _ _ _ _ _; intro _ h₁; replace hF := CMS.rely hF h₁; have hN2 := h₁.size.trans hN; clear hN; have hN := hN2; clear hN2 h₁) | (with_reducible refine goes_rg ?_ ?_; exact termsM _ _ _ _ _; intro _ h₁; replace hF := CMS.rely hF h₁; have hN2 := h₁.size.trans hN; clear hN; have hN := hN2; clear hN2 h₁; simp only [List.size_toArray, List.length_cons, List.length_nil, Nat.reduceAdd, Nat.zero_add, List.range, List.range.loop])))
  (refine goes_vn (termsM (47, true) N T ch GG) (.slice pA M pcap2) rfl rfl (by decide) (fun _ => by go_simp; try (first | omega | (w_num; omega) | w_num | decide)) (fun _ => by simp [go_sem, *]) (fun _ h₁ => ?_); replace hF := CMS.rely hF h₁; have hN2 := h₁.size.trans hN; clear hN; have hN := hN2; clear hN2 h₁; (try walk_nrm))
  (refine goes_vn (termsM (47, true) N T ch GG) (.slice tA tn tcap2) rfl rfl (by decide) (fun _ => by go_simp; try (first | omega | (w_num; omega) | w_num | decide)) (fun _ => by simp [go_sem, *]) (fun _ h₁ => ?_); replace hF := CMS.rely hF h₁; have hN2 := h₁.size.trans hN; clear hN; have hN := hN2; clear hN2 h₁; (try walk_nrm))
  refine Goes.mono (n := 0 + 41) ?_ (by omega)
  refine call_merge (pcap := pcap2) (tcap := tcap2) (base 5) [] (by decide) rfl rfl rfl (by simp [Act.eval]) hM hn8 href hF hN (fun T2 ch2 GG2 out lo hi w2 hlo hC => ?_)
  refine ⟨want, NW, N1, pA, tA, pcap2, tcap2, pa, pc, o1, o2, out, l1, h1, l2, h2, lo, hi, fun i => (#[.slice qA M pcap, .slice uA tn tcap, u 2, u 3, u 4, want, .slice pA M pcap2, u 7, .slice tA tn tcap2, o1, u 10, u 11, u 12, u 13, u 14, u 15, u 16, u 17, u 18, u 19, u 20, u 21, u 22, u 23, u 24, u 25, u 26, u 27, u 28, u 29, u 30, u 31, u 32, u 33, u 34, u 35, u 36, u 37, o2, .slice pA M pcap2, .slice tA tn tcap2, u 41, u 42, u 43, u 44, u 45, u 46, u 47, u 48, u 49, u 50, u 51, u 52, u 53, u 54, u 55, u 56, u 57, u 58, u 59, u 60, u 61, u 62, u 63, u 64, u 65, u 66, u 67, u 68, u 69, u 70] : Array Value).getD i undef, hord, (by have := (hF.ra o2 l2 h2 (by simp)).2.2.2.2; omega), hC, ?_⟩
  simp only [ops5c, ops5d, ops5e, t5f, t5e, t5d, t5c, t5b, t5a, body5, Try.f5, Option.getD_some]
  rfl

set_option maxRecDepth 100000 in
theorem nil3 (W : World) (qA : Option Addr) (M pcap : Nat) (uA : Option Addr) (tn tcap : Nat) (zs : Nat → List Int) (ts : List Int) (hM : 64 < M) (N : Nat) (T ch GG : List Nat) (g : Goroutine) (w₀ : World) (h : AtEnd (PM2 W qA M pcap uA tn tcap zs ts) T ch GG g w₀) :
    FollowM Try.prog zi (0, false) N (PM3 W qA M pcap uA tn tcap zs ts) [] T ch GG g w₀ := by
  obtain ⟨_, want, NW, N1, pA, tA, pcap2, tcap2, pa, pc, o1, o2, l1, h1, l2, h2, u, hord, hF, rfl⟩ := h
  refine followM_iff.2 ⟨(0 + 40 + 3) + 20, ?_⟩
  have href : refM M zs ts = [] := by rw [refM, if_pos (by omega)]
  show Goes Try.prog true (RC (0, false) N ch) (DM (0, false) N T ch GG) (AtEnd (PM3 W qA M pcap uA tn tcap zs ts) T ch GG) _ _ _
  simp only [ops5c, ops5d, ops5e, t5f, t5e, t5d, t5c, t5b, t5a, body5, Try.f5, Option.getD_some]
  (refine goes_vn (termsM (0, false) N T ch GG) (o2) rfl rfl (by decide) (fun _ => by go_simp; try (first | omega | (w_num; omega) | w_num | decide)) (fun _ => by simp [go_sem, *]) (fun _ h₁ => ?_); replace hF := CMS.rely hF h₁; clear h₁; (try walk_nrm))
  (repeat (first | ((with_reducible first | refine goes_rend ?_ ?_ | refine goes_sq ?_ ?_ | refine goes_sk ?_ ?_ | refine goes_bl ?_ ?_ | refine goes_lo ?_ ?_ | refine goes_ib ?_ ?_ | refine goes_il ?_ ?_ | refine goes_rt ?_ ?_ | refine goes_en ?_ ?_); exact termsM _ _ _ _ _; intro _ h₁; replace hF := CMS.rely hF h₁; clear h₁) | (with_reducible refine goes_rg ?_ ?_; exact termsM _ _ _ _ _; intro _ h₁; replace hF := CMS.rely hF h₁; clear h₁; simp only [List.size_toArray, List.length_cons, List.length_nil, Nat.reduceAdd, Nat.zero_add, List.range, List.range.loop])))
  (refine goes_vn (termsM (0, false) N T ch GG) (.slice pA M pcap2) rfl rfl (by decide) (fun _ => by go_simp; try (first | omega | (w_num; omega) | w_num | decide)) (fun _ => by simp [go_sem, *]) (fun _ h₁ => ?_); replace hF := CMS.rely hF h₁; clear h₁; (try walk_nrm))
  (refine goes_vn (termsM (0, false) N T ch GG) (.slice tA tn tcap2) rfl rfl (by decide) (fun _ => by go_simp; try (first | omega | (w_num; omega) | w_num | decide)) (fun _ => by simp [go_sem, *]) (fun _ h₁ => ?_); replace hF := CMS.rely hF h₁; clear h₁; (try walk_nrm))
  refine Goes.mono (n := 0 + 40 + 3) ?_ (by omega)
  refine call_none (pcap := pcap2) (tcap := tcap2) (base 5) [] (by decide) rfl rfl rfl (by simp [Act.eval]) hM href hF (fun out lo hi w2 hlo hC => ?_)
  refine ⟨want, NW, N1, pA, tA, pcap2, tcap2, pa, pc, o1, o2, out, l1, h1, l2, h2, lo, hi, fun i => (#[.slice qA M pcap, .slice uA tn tcap, u 2, u 3, u 4, want, .slice pA M pcap2, u 7, .slice tA tn tcap2, o1, u 10, u 11, u 12, u 13, u 14, u 15, u 16, u 17, u 18, u 19, u 20, u 21, u 22, u 23, u 24, u 25, u 26, u 27, u 28, u 29, u 30, u 31, u 32, u 33, u 34, u 35, u 36, u 37, o2, .slice pA M pcap2, .slice tA tn tcap2, u 41, u 42, u 43, u 44, u 45, u 46, u 47, u 48, u 49, u 50, u 51, u 52, u 53, u 54, u 55, u 56, u 57, u 58, u 59, u 60, u 61, u 62, u 63, u 64, u 65, u 66, u 67, u 68, u 69, u 70] : Array Value).getD i undef, hord, (by have := (hF.ra o2 l2 h2 (by simp)).2.2.2.2; omega), hC, ?_⟩
  simp only [ops5c, ops5d, ops5e, t5f, t5e, t5d, t5c, t5b, t5a, body5, Try.f5, Option.getD_some]
  rfl

end Go.Proofs.Ytplndihadjfliaa.Mix
/-
  CREW: CrewMerge's drawn region: its last operations have one order.
-/
set_option linter.unusedSimpArgs false
set_option linter.unusedVariables false
set_option maxHeartbeats 2000000
namespace Go.Proofs.Ytplndihadjfliaa.Mix
open Go Go.Conc Go.ConcN Go.Proofs Go.RowKit

/-- As goodL, by lists of all states that can come about. -/
def goodT (md : Region.Mode) (ops : Array Oper) (K : List Nat) : List (Array Bool) → List (List (Array Bool)) → Bool
  | Ls, [] => Ls.all fun L => goodL.chain md ops K L
  | Ls, N :: r => (Ls.all fun L => Region.ready md ops L == Region.ready md ops (marks K L) && !(Region.ready md ops L).isEmpty && (Region.ready md ops L).all fun i => (marks K (L.setIfInBounds i true) == (marks K L).setIfInBounds i true) && N.contains (L.setIfInBounds i true)) && goodT md ops K N r
theorem lin_splitT {md : Region.Mode} {ops : Array Oper} {K : List Nat} : ∀ (r : List (List (Array Bool))) (Ls : List (Array Bool)), goodT md ops K Ls r = true → ∀ L ∈ Ls, ∀ t, Region.linearise.go md ops (r.length + K.length) t L [] = Region.linearise.go md ops r.length t (marks K L) [] ++ K
  | [], Ls, h, L, hL, t => by
    simp only [goodT, List.all_eq_true] at h
    rw [List.length_nil, Nat.zero_add, lin_chain K L t (h L hL)]; rfl
  | N :: r, Ls, h, L, hL, t => by
    simp only [goodT, Bool.and_eq_true, beq_iff_eq, List.all_eq_true, Bool.not_eq_true', List.isEmpty_eq_false_iff] at h
    obtain ⟨h, hr⟩ := h
    obtain ⟨⟨h1, h2⟩, h3⟩ := h L hL
    obtain ⟨i, hi, e1, e2⟩ := lin_next (md := md) (ops := ops) (fuel := r.length + K.length) (t := t) (L := L) h2
    obtain ⟨i', hi', e1', e2'⟩ := lin_next (md := md) (ops := ops) (fuel := r.length) (t := t) (L := marks K L) (by rw [← h1]; exact h2)
    rw [← h1] at e1' e2'
    rw [e1] at e1'
    cases e1'
    obtain ⟨h4, h5⟩ := h3 i hi
    have e3 : (N :: r).length + K.length = r.length + K.length + 1 := by simp only [List.length_cons]; omega
    rw [e3, List.length_cons, e2, e2', lin_splitT r N hr _ (by simpa using h5), h4]
    rfl
theorem wpC_region_tailT {P : Program} {main : Bool} {R : World → World → Prop} {D : World → World → Array Event → Prop} {fn : FuncId} {ops : Array Oper} {Q Q' : Exit → Act → World → Prop} {S : World → Prop} {K : List Nat} {m : Nat} (T : Terms R D) (hd : LetsDraw D) {id : Nat} {a : Act} {w : World} (hm : P.follows .mixedOrders = true) (r : List (List (Array Bool))) (hn : ops.size = r.length + K.length) (hg : goodT .any ops K [Array.replicate ops.size false] r = true)
    (h : ∀ w₁, R w w₁ → AnyCH P R D fn .any ops Q' S r.length (marks K (Array.replicate ops.size false)) a { w₁ with drawn := w₁.drawn + 1 }) (htail : ∀ a w, Q' .normal a w → OpsC P main R D fn ops K m Q a w) :
    (Code.region id ops true).wpC P main R D fn (r.length + m + 1) Q a w :=
  wpC_region_draw hd fun w₁ h₁ t => by
    simp only [Region.schedule, hm, Bool.true_or, if_true, Region.linearise]
    have e := lin_splitT (md := .any) (ops := ops) (K := K) r _ hg (Array.replicate ops.size false) (by simp) t
    have e3 := anyCH_tail (main := main) T htail r.length t _ a _ (h w₁ h₁)
    rw [← e, ← hn] at e3
    exact e3

noncomputable def t5g : Code := match t5f with | .seq _ (.seq _ r) => r | _ => .skip
noncomputable def L5b : Code := match t5f with | .seq _ (.seq (.seq _ (.block _ (.loop c))) _) => c | _ => .skip
noncomputable def B5b : Code := match L5b with | .seq _ (.seq (.block _ c) _) => c | _ => .skip
noncomputable def R5b : Code := match L5b with | .seq _ (.seq _ r) => r | _ => .skip
noncomputable def ops5x : Array Oper := match B5b with | .region _ ops _ => ops | _ => #[]
theorem b5b : B5b = .region 15 ops5x true := by kernel_rfl
theorem sz5x : ops5x.size = 13 := by kernel_rfl
def lev5x : List (List (Array Bool)) := [[#[true, false, false, false, false, false, false, false, false, false, false, false, false]],
  [#[true, true, false, false, false, false, false, false, false, false, false, false, false]],
  [#[true, true, true, false, false, false, false, false, false, false, false, false, false], #[true, true, false, true, false, false, false, false, false, false, false, false, false], #[true, true, false, false, false, false, true, false, false, false, false, false, false], #[true, true, false, false, false, false, false, true, false, false, false, false, false]],
  [#[true, true, true, true, false, false, false, false, false, false, false, false, false], #[true, true, true, false, false, false, true, false, false, false, false, false, false], #[true, true, true, false, false, false, false, true, false, false, false, false, false], #[true, true, false, true, false, false, true, false, false, false, false, false, false], #[true, true, false, true, false, false, false, true, false, false, false, false, false], #[true, true, false, false, false, false, true, true, false, false, false, false, false]],
  [#[true, true, true, true, true, false, false, false, false, false, false, false, false], #[true, true, true, true, false, false, true, false, false, false, false, false, false], #[true, true, true, true, false, false, false, true, false, false, false, false, false], #[true, true, true, false, false, false, true, true, false, false, false, false, false], #[true, true, false, true, false, false, true, true, false, false, false, false, false], #[true, true, false, false, false, false, true, true, true, false, false, false, false]],
  [#[true, true, true, true, true, true, false, false, false, false, false, false, false], #[true, true, true, true, true, false, true, false, false, false, false, false, false], #[true, true, true, true, true, false, false, true, false, false, false, false, false], #[true, true, true, true, false, false, true, true, false, false, false, false, false], #[true, true, true, false, false, false, true, true, true, false, false, false, false], #[true, true, false, true, false, false, true, true, true, false, false, false, false], #[true, true, false, false, false, false, true, true, true, true, false, false, false]],
  [#[true, true, true, true, true, true, true, false, false, false, false, false, false], #[true, true, true, true, true, true, false, true, false, false, false, false, false], #[true, true, true, true, true, false, true, true, false, false, false, false, false], #[true, true, true, true, false, false, true, true, true, false, false, false, false], #[true, true, true, false, false, false, true, true, true, true, false, false, false], #[true, true, false, true, false, false, true, true, true, true, false, false, false]],
  [#[true, true, true, true, true, true, true, true, false, false, false, false, false], #[true, true, true, true, true, false, true, true, true, false, false, false, false], #[true, true, true, true, false, false, true, true, true, true, false, false, false]],
  [#[true, true, true, true, true, true, true, true, true, false, false, false, false], #[true, true, true, true, true, false, true, true, true, true, false, false, false]],
  [#[true, true, true, true, true, true, true, true, true, true, false, false, false]]]
theorem good5x : goodT .any ops5x [10, 11, 12] [Array.replicate ops5x.size false] lev5x = true := by kernel_rfl
end Go.Proofs.Ytplndihadjfliaa.Mix
