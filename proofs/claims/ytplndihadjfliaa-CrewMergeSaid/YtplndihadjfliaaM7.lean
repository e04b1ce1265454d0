/-
  CREW: the walk of crew.send: a sender of Merge's.
-/
import Derived.Test.YtplndihadjfliaaM6
import Derived.Conc.AppendEvents3
set_option linter.unusedSimpArgs false
set_option linter.unusedVariables false
set_option maxHeartbeats 1000000
namespace Go.Proofs.Ytplndihadjfliaa.Mix
open Go Go.Conc Go.ConcN Go.Proofs
open Go.ConcR (KK wgBlock WgAt stA smA rd wr)

noncomputable def body24 : Code := Try.f24.body.getD .skip
noncomputable def tail24a : Code := match body24 with | .seq _ r => r | _ => .skip
noncomputable def ops24c : Array Oper := match tail24a with | .seq (.region _ ops _) _ => ops | _ => #[]
noncomputable def tail24b : Code := match tail24a with | .seq _ r => r | _ => .skip
noncomputable def L24 : Code := match tail24b with | .seq _ (.block _ (.loop c)) => c | _ => .skip
noncomputable def B24 : Code := match L24 with | .seq _ (.seq _ (.seq (.block _ c) _)) => c | _ => .skip
noncomputable def S24 : Code := match B24 with | .seq _ (.seq _ r) => r | _ => .skip
noncomputable def ops24s : Array Oper := match S24 with | .seq (.region _ ops _) _ => ops | _ => #[]
noncomputable def E24 : Code := match S24 with | .seq _ r => r | _ => .skip
noncomputable def R24 : Code := match L24 with | .seq _ (.seq _ (.seq _ r)) => r | _ => .skip

theorem evW_cell {T : List Nat} (a : Addr) (s : Bool) (h : a.block ∈ T) : EvW T ⟨.cell a, false, s⟩ := ⟨fun m h => (by cases h), .inr ⟨rfl, .inl ⟨a.block, rfl, h⟩⟩⟩
theorem addBlock (a : Addr) (n : Nat) : (a.add n).block = a.block := by unfold Addr.add; split <;> rfl

/-- What a sender reads. -/
structure SndK (T : List Nat) (Wg : Nat) (a0 : Option Addr) (n : Nat) (zs : List Int) (w : World) : Prop where
  el : ∀ j ad, j < n → a0 = some ad → w.cell? (ad.add j) = some (.int .i64 (zs[j]?.getD 0))
  eb : ∀ ad, a0 = some ad → 0 < n → ad.block ∈ T
  lv : WgLive 47 Wg w
theorem SndK.rely {T : List Nat} {Wg : Nat} {a0 : Option Addr} {n : Nat} {zs : List Int} {w w₁ : World} (h : SndK T Wg a0 n zs w) (r : RW (47, true) Wg T w w₁) : SndK T Wg a0 n zs w₁ :=
  ⟨fun j ad hj ha => (World.cell?_of_block (by rw [addBlock]; exact r.rd ad.block (h.eb ad ha (by omega)))).trans (h.el j ad hj ha), h.eb, r.live rfl h.lv⟩

theorem QE.leaveBot {P : Program} {b : Frame} {a : Act} {todo : List Item} {fn : Func} (hn : b.kind = .deferred) (hd : a.defers = []) (hf : P.funcs[b.fn]? = some fn) (hr : fn.results = #[]) : QE P 0 (G { b.at a todo with mode := .returning } [bot P]) := by
  refine QE.ctl rfl (g' := G (bot P) []) (fun w => ?_) ⟨1, .of_quitsIn bot_quits⟩
  simp [G, stepG, unwind, doReturn, results, Frame.at, hn, hd, bot, hf, hr, seen, GStep.after, goexitEntry]

section
variable (T : List Nat) (s c Wg : Nat) (a0 : Option Addr) (n cap : Nat) (zs : List Int) (cc : Array Bool)

noncomputable def head24 (k : Nat) (u4 u5 u6 u7 u8 u9 u10 u11 u15 u16 u17 u18 u19 u20 u21 u22 u23 u24 u25 : Value) : Goroutine :=
  G ((baseD 24).at ⟨#[.slice a0 n cap, .chan (some c), .chan (some s), .pointer (some ⟨Wg, 0, none⟩), u4, u5, u6, u7, u8, u9, u10, u11, .slice a0 n cap, .int .i64 n, .int .i64 k, u15, u16, u17, u18, u19, u20, u21, u22, u23, u24, u25], [dclose 54 0 cc c, dcall 39 #[.pointer (some ⟨Wg, 0, none⟩)]]⟩ [.code L24, .inLoop L24, .inBlock 0]) [bot Try.prog]
noncomputable def sel24 (k : Nat) (u4 u5 u6 u7 u8 u9 u10 u11 u15 u16 u17 u21 u22 u23 u24 u25 : Value) (rest : List Nat) : Goroutine :=
  G ((baseD 24).at ⟨#[.slice a0 n cap, .chan (some c), .chan (some s), .pointer (some ⟨Wg, 0, none⟩), u4, u5, u6, u7, u8, u9, u10, u11, .slice a0 n cap, .int .i64 n, .int .i64 k, u15, u16, u17, .chan (some c), iv (zs[k]?.getD 0), .chan (some s), u21, u22, u23, u24, u25], [dclose 54 0 cc c, dcall 39 #[.pointer (some ⟨Wg, 0, none⟩)]]⟩ [.inRegion ops24s rest, .code E24, .inBlock 1, .code R24, .inLoop L24, .inBlock 0]) [bot Try.prog]

set_option maxRecDepth 100000 in
theorem seg24_entry (Stop : Goroutine → World → Prop) (n₀ : Nat) (w : World) (hF : SndK T Wg a0 n zs w) (next : ∀ (cc : Array Bool) (u4 u5 u6 u7 u8 u9 u10 u11 u15 u16 u17 u18 u19 u20 u21 u22 u23 u24 u25 : Value) w', SndK T Wg a0 n zs w' → Goes Try.prog false (RW (47, true) Wg T) (DW T) Stop n₀ (head24 s c Wg a0 n cap cc 0 u4 u5 u6 u7 u8 u9 u10 u11 u15 u16 u17 u18 u19 u20 u21 u22 u23 u24 u25) w') :
    Goes Try.prog false (RW (47, true) Wg T) (DW T) Stop (n₀ + 30) (G ((baseD 24).at ⟨#[.slice a0 n cap, .chan (some c), .chan (some s), .pointer (some ⟨Wg, 0, none⟩), undef, undef, undef, undef, undef, undef, undef, undef, undef, undef, undef, undef, undef, undef, undef, undef, undef, undef, undef, undef, undef, undef], []⟩ [.code body24]) [bot Try.prog]) w := by
  simp only [head24, L24, tail24b, tail24a, body24, Try.f24, Option.getD_some] at next ⊢
  (repeat (first | ((with_reducible first | refine goes_rend ?_ ?_ | refine goes_sq ?_ ?_ | refine goes_sk ?_ ?_ | refine goes_bl ?_ ?_ | refine goes_lo ?_ ?_ | refine goes_ib ?_ ?_ | refine goes_il ?_ ?_ | refine goes_rt ?_ ?_ | refine goes_en ?_ ?_); exact termsW _ _ _; intro _ h₁; replace hF := hF.rely h₁; clear h₁) | (with_reducible refine goes_rg ?_ ?_; exact termsW _ _ _; intro _ h₁; replace hF := hF.rely h₁; clear h₁; simp only [List.size_toArray, List.length_cons, List.length_nil, Nat.reduceAdd, Nat.zero_add, List.range, List.range.loop])))
  (refine Goes.step rfl (fun w₁ h₁ => ?_); replace hF := hF.rely h₁; clear h₁; refine goes_oper_k rfl rfl (by decide) (fun K hK => ?_); have hel := hF.el; go_simp; refine hK _ _ ⟨⟨rfl, fun e he => ?_⟩, ?_⟩; (focus (have hm := mem_listed he; (simp [go_sem, *] at hm); (try (subst hm; exact evW_cell _ _ (by rw [addBlock]; exact hF.eb _ rfl (by omega)))))); (clear hK K hel); (try walk_nrm))
  refine Goes.step rfl (fun _ h₁ => ?_)
  rw [stepG_defer rfl rfl (by decide) rfl]
  simp only [goes_go]
  refine ⟨⟨rfl, by simp⟩, ?_⟩
  replace hF := hF.rely h₁
  clear h₁
  try walk_nrm
  (repeat (first | ((with_reducible first | refine goes_rend ?_ ?_ | refine goes_sq ?_ ?_ | refine goes_sk ?_ ?_ | refine goes_bl ?_ ?_ | refine goes_lo ?_ ?_ | refine goes_ib ?_ ?_ | refine goes_il ?_ ?_ | refine goes_rt ?_ ?_ | refine goes_en ?_ ?_); exact termsW _ _ _; intro _ h₁; replace hF := hF.rely h₁; clear h₁) | (with_reducible refine goes_rg ?_ ?_; exact termsW _ _ _; intro _ h₁; replace hF := hF.rely h₁; clear h₁; simp only [List.size_toArray, List.length_cons, List.length_nil, Nat.reduceAdd, Nat.zero_add, List.range, List.range.loop])))
  (refine Goes.step rfl (fun w₁ h₁ => ?_); replace hF := hF.rely h₁; clear h₁; refine goes_oper_k rfl rfl (by decide) (fun K hK => ?_); have hel := hF.el; go_simp; refine hK _ _ ⟨⟨rfl, fun e he => ?_⟩, ?_⟩; (focus (have hm := mem_listed he; (simp [go_sem, *] at hm); (try (subst hm; exact evW_cell _ _ (by rw [addBlock]; exact hF.eb _ rfl (by omega)))))); (clear hK K hel); (try walk_nrm))
  refine Goes.step rfl (fun w₁ h₁ => ?_)
  obtain ⟨cc, e⟩ := stepG_defer_close (P := Try.prog) (main := false) (w := w₁) (cs := [bot Try.prog]) (b := baseD 24) (ops := ops24c) (i := 1) (rest := []) (x := .tmp 11) (t := 54) (c := c) (o := { dst := none, op := .defer { callee := .builtin .close, args := #[.tmp 11], argTypes := #[54] }, type := 0, pos := "crew.go:91", after := #[{ on := 0, ground := .data }], guard := none }) (k := [.code tail24b]) (a := ⟨#[.slice a0 n cap, .chan (some c), .chan (some s), .pointer (some ⟨Wg, 0, none⟩), undef, undef, undef, undef, undef, undef, .pointer (some ⟨Wg, 0, none⟩), .chan (some c), undef, undef, undef, undef, undef, undef, undef, undef, undef, undef, undef, undef, undef, undef], [dcall 39 #[.pointer (some ⟨Wg, 0, none⟩)]]⟩) rfl rfl (by decide) rfl rfl
  simp only [ops24c, tail24b, tail24a, body24, Try.f24, Option.getD_some] at e
  rw [e]
  simp only [goes_go]
  refine ⟨⟨rfl, by simp⟩, ?_⟩
  replace hF := hF.rely h₁
  clear e h₁
  try walk_nrm
  (repeat (first | ((with_reducible first | refine goes_rend ?_ ?_ | refine goes_sq ?_ ?_ | refine goes_sk ?_ ?_ | refine goes_bl ?_ ?_ | refine goes_lo ?_ ?_ | refine goes_ib ?_ ?_ | refine goes_il ?_ ?_ | refine goes_rt ?_ ?_ | refine goes_en ?_ ?_); exact termsW _ _ _; intro _ h₁; replace hF := hF.rely h₁; clear h₁) | (with_reducible refine goes_rg ?_ ?_; exact termsW _ _ _; intro _ h₁; replace hF := hF.rely h₁; clear h₁; simp only [List.size_toArray, List.length_cons, List.length_nil, Nat.reduceAdd, Nat.zero_add, List.range, List.range.loop])))
  (refine Goes.step rfl (fun w₁ h₁ => ?_); replace hF := hF.rely h₁; clear h₁; refine goes_oper_k rfl rfl (by decide) (fun K hK => ?_); have hel := hF.el; go_simp; refine hK _ _ ⟨⟨rfl, fun e he => ?_⟩, ?_⟩; (focus (have hm := mem_listed he; (simp [go_sem, *] at hm); (try (subst hm; exact evW_cell _ _ (by rw [addBlock]; exact hF.eb _ rfl (by omega)))))); (clear hK K hel); (try walk_nrm))
  (refine Goes.step rfl (fun w₁ h₁ => ?_); replace hF := hF.rely h₁; clear h₁; refine goes_oper_k rfl rfl (by decide) (fun K hK => ?_); have hel := hF.el; go_simp; refine hK _ _ ⟨⟨rfl, fun e he => ?_⟩, ?_⟩; (focus (have hm := mem_listed he; (simp [go_sem, *] at hm); (try (subst hm; exact evW_cell _ _ (by rw [addBlock]; exact hF.eb _ rfl (by omega)))))); (clear hK K hel); (try walk_nrm))
  (refine Goes.step rfl (fun w₁ h₁ => ?_); replace hF := hF.rely h₁; clear h₁; refine goes_oper_k rfl rfl (by decide) (fun K hK => ?_); have hel := hF.el; go_simp; refine hK _ _ ⟨⟨rfl, fun e he => ?_⟩, ?_⟩; (focus (have hm := mem_listed he; (simp [go_sem, *] at hm); (try (subst hm; exact evW_cell _ _ (by rw [addBlock]; exact hF.eb _ rfl (by omega)))))); (clear hK K hel); (try walk_nrm))
  (first | ((with_reducible first | refine goes_rend ?_ ?_ | refine goes_sq ?_ ?_ | refine goes_sk ?_ ?_ | refine goes_bl ?_ ?_ | refine goes_lo ?_ ?_ | refine goes_ib ?_ ?_ | refine goes_il ?_ ?_ | refine goes_rt ?_ ?_ | refine goes_en ?_ ?_); exact termsW _ _ _; intro _ h₁; replace hF := hF.rely h₁; clear h₁) | (with_reducible refine goes_rg ?_ ?_; exact termsW _ _ _; intro _ h₁; replace hF := hF.rely h₁; clear h₁; simp only [List.size_toArray, List.length_cons, List.length_nil, Nat.reduceAdd, Nat.zero_add, List.range, List.range.loop]))
  (first | ((with_reducible first | refine goes_rend ?_ ?_ | refine goes_sq ?_ ?_ | refine goes_sk ?_ ?_ | refine goes_bl ?_ ?_ | refine goes_lo ?_ ?_ | refine goes_ib ?_ ?_ | refine goes_il ?_ ?_ | refine goes_rt ?_ ?_ | refine goes_en ?_ ?_); exact termsW _ _ _; intro _ h₁; replace hF := hF.rely h₁; clear h₁) | (with_reducible refine goes_rg ?_ ?_; exact termsW _ _ _; intro _ h₁; replace hF := hF.rely h₁; clear h₁; simp only [List.size_toArray, List.length_cons, List.length_nil, Nat.reduceAdd, Nat.zero_add, List.range, List.range.loop]))
  (first | ((with_reducible first | refine goes_rend ?_ ?_ | refine goes_sq ?_ ?_ | refine goes_sk ?_ ?_ | refine goes_bl ?_ ?_ | refine goes_lo ?_ ?_ | refine goes_ib ?_ ?_ | refine goes_il ?_ ?_ | refine goes_rt ?_ ?_ | refine goes_en ?_ ?_); exact termsW _ _ _; intro _ h₁; replace hF := hF.rely h₁; clear h₁) | (with_reducible refine goes_rg ?_ ?_; exact termsW _ _ _; intro _ h₁; replace hF := hF.rely h₁; clear h₁; simp only [List.size_toArray, List.length_cons, List.length_nil, Nat.reduceAdd, Nat.zero_add, List.range, List.range.loop]))
  refine Goes.mono (n := n₀) ?_ (by omega)
  exact next cc _ _ _ _ _ _ _ _ _ _ _ _ _ _ _ _ _ _ _ _ hF

set_option maxRecDepth 100000 in
/-- From the head to the select. -/
theorem seg24_sel (Stop : Goroutine → World → Prop) (n₀ k : Nat) (hk : k < n) (hnil : ∃ ad, a0 = some ad) (u4 u5 u6 u7 u8 u9 u10 u11 u15 u16 u17 u18 u19 u20 u21 u22 u23 u24 u25 : Value) (w : World) (hF : SndK T Wg a0 n zs w)
    (next : ∀ (u4 u5 u6 u7 u8 u9 u10 u11 u15 u16 u17 u21 u22 u23 u24 u25 : Value) w', SndK T Wg a0 n zs w' → Goes Try.prog false (RW (47, true) Wg T) (DW T) Stop n₀ (sel24 s c Wg a0 n cap zs cc k u4 u5 u6 u7 u8 u9 u10 u11 u15 u16 u17 u21 u22 u23 u24 u25 [0, 1, 2, 3]) w') : Goes Try.prog false (RW (47, true) Wg T) (DW T) Stop (n₀ + 40) (head24 s c Wg a0 n cap cc k u4 u5 u6 u7 u8 u9 u10 u11 u15 u16 u17 u18 u19 u20 u21 u22 u23 u24 u25) w := by
  obtain ⟨ad, rfl⟩ := hnil
  simp only [head24, sel24, ops24s, E24, S24, B24, R24, L24, tail24b, tail24a, body24, Try.f24, Option.getD_some] at next ⊢
  repeat (first | (first | ((with_reducible first | refine goes_rend ?_ ?_ | refine goes_sq ?_ ?_ | refine goes_sk ?_ ?_ | refine goes_bl ?_ ?_ | refine goes_lo ?_ ?_ | refine goes_ib ?_ ?_ | refine goes_il ?_ ?_ | refine goes_rt ?_ ?_ | refine goes_en ?_ ?_); exact termsW _ _ _; intro _ h₁; replace hF := hF.rely h₁; clear h₁) | (with_reducible refine goes_rg ?_ ?_; exact termsW _ _ _; intro _ h₁; replace hF := hF.rely h₁; clear h₁; simp only [List.size_toArray, List.length_cons, List.length_nil, Nat.reduceAdd, Nat.zero_add, List.range, List.range.loop])) | (refine Goes.step rfl (fun w₁ h₁ => ?_); replace hF := hF.rely h₁; clear h₁; refine goes_oper_k rfl rfl (by decide) (fun K hK => ?_); have hel := hF.el; go_simp; refine hK _ _ ⟨⟨rfl, fun e he => ?_⟩, ?_⟩; (focus (have hm := mem_listed he; (simp [go_sem, *] at hm); (try (subst hm; exact evW_cell _ _ (by rw [addBlock]; exact hF.eb _ rfl (by omega)))))); (clear hK K hel); (try walk_nrm)))
  (refine goes_cd (termsW _ _ _) true rfl (fun _ h₁ => ?_); replace hF := hF.rely h₁; clear h₁; simp only [if_true, if_false, Bool.false_eq_true, ↓reduceIte])
  repeat (first | (first | ((with_reducible first | refine goes_rend ?_ ?_ | refine goes_sq ?_ ?_ | refine goes_sk ?_ ?_ | refine goes_bl ?_ ?_ | refine goes_lo ?_ ?_ | refine goes_ib ?_ ?_ | refine goes_il ?_ ?_ | refine goes_rt ?_ ?_ | refine goes_en ?_ ?_); exact termsW _ _ _; intro _ h₁; replace hF := hF.rely h₁; clear h₁) | (with_reducible refine goes_rg ?_ ?_; exact termsW _ _ _; intro _ h₁; replace hF := hF.rely h₁; clear h₁; simp only [List.size_toArray, List.length_cons, List.length_nil, Nat.reduceAdd, Nat.zero_add, List.range, List.range.loop])) | (refine Goes.step rfl (fun w₁ h₁ => ?_); replace hF := hF.rely h₁; clear h₁; refine goes_oper_k rfl rfl (by decide) (fun K hK => ?_); have hel := hF.el; go_simp; refine hK _ _ ⟨⟨rfl, fun e he => ?_⟩, ?_⟩; (focus (have hm := mem_listed he; (simp [go_sem, *] at hm); (try (subst hm; exact evW_cell _ _ (by rw [addBlock]; exact hF.eb _ rfl (by omega)))))); (clear hK K hel); (try walk_nrm)))
  refine Goes.mono (n := n₀) ?_ (by omega)
  exact next _ _ _ _ _ _ _ _ _ _ _ _ _ _ _ _ _ hF

set_option maxRecDepth 100000 in
/-- From behind the select, the value handed on, to the head. -/
theorem seg24_next (Stop : Goroutine → World → Prop) (n₀ k : Nat) (hk : k < n) (hn : n ≤ 9223372036854775807) (zs' : Value) (u4 u5 u6 u7 u8 u9 u10 u11 u15 u16 u17 u21 u22 u23 u24 u25 : Value) (w : World) (hF : SndK T Wg a0 n zs w)
    (next : ∀ (u4 u5 u6 u7 u8 u9 u10 u11 u15 u16 u17 u18 u19 u20 u21 u22 u23 u24 u25 : Value) w', SndK T Wg a0 n zs w' → Goes Try.prog false (RW (47, true) Wg T) (DW T) Stop n₀ (head24 s c Wg a0 n cap cc (k + 1) u4 u5 u6 u7 u8 u9 u10 u11 u15 u16 u17 u18 u19 u20 u21 u22 u23 u24 u25) w') : Goes Try.prog false (RW (47, true) Wg T) (DW T) Stop (n₀ + 30) (sel24 s c Wg a0 n cap zs cc k u4 u5 u6 u7 u8 u9 u10 u11 u15 u16 u17 (.tuple #[goInt 0, .bool false, zs']) u22 u23 u24 u25 [1, 2, 3]) w := by
  have hwr : IntKind.i64.wrap ((k : Int) + 1) = ((k + 1 : Nat) : Int) := by rw [IntKind.wrap_i64]; omega
  simp only [head24, sel24, ops24s, E24, S24, B24, R24, L24, tail24b, tail24a, body24, Try.f24, Option.getD_some, goInt] at next ⊢
  (refine Goes.step rfl (fun w₁ h₁ => ?_); replace hF := hF.rely h₁; clear h₁; refine goes_oper_k rfl rfl (by decide) (fun K hK => ?_); have hel := hF.el; go_simp; refine hK _ _ ⟨⟨rfl, fun e he => ?_⟩, ?_⟩; (focus (have hm := mem_listed he; (simp [go_sem, *] at hm); (try (subst hm; exact evW_cell _ _ (by rw [addBlock]; exact hF.eb _ rfl (by omega)))))); (clear hK K hel); (try walk_nrm))
  (refine Goes.step rfl (fun w₁ h₁ => ?_); replace hF := hF.rely h₁; clear h₁; refine goes_oper_k rfl rfl (by decide) (fun K hK => ?_); have hel := hF.el; go_simp; refine hK _ _ ⟨⟨rfl, fun e he => ?_⟩, ?_⟩; (focus (have hm := mem_listed he; (simp [go_sem, *] at hm); (try (subst hm; exact evW_cell _ _ (by rw [addBlock]; exact hF.eb _ rfl (by omega)))))); (clear hK K hel); (try walk_nrm))
  (refine Goes.step rfl (fun w₁ h₁ => ?_); replace hF := hF.rely h₁; clear h₁; refine goes_oper_k rfl rfl (by decide) (fun K hK => ?_); have hel := hF.el; go_simp; refine hK _ _ ⟨⟨rfl, fun e he => ?_⟩, ?_⟩; (focus (have hm := mem_listed he; (simp [go_sem, *] at hm); (try (subst hm; exact evW_cell _ _ (by rw [addBlock]; exact hF.eb _ rfl (by omega)))))); (clear hK K hel); (try walk_nrm))
  (repeat (first | ((with_reducible first | refine goes_rend ?_ ?_ | refine goes_sq ?_ ?_ | refine goes_sk ?_ ?_ | refine goes_bl ?_ ?_ | refine goes_lo ?_ ?_ | refine goes_ib ?_ ?_ | refine goes_il ?_ ?_ | refine goes_rt ?_ ?_ | refine goes_en ?_ ?_); exact termsW _ _ _; intro _ h₁; replace hF := hF.rely h₁; clear h₁) | (with_reducible refine goes_rg ?_ ?_; exact termsW _ _ _; intro _ h₁; replace hF := hF.rely h₁; clear h₁; simp only [List.size_toArray, List.length_cons, List.length_nil, Nat.reduceAdd, Nat.zero_add, List.range, List.range.loop])))
  (refine goes_cd (termsW _ _ _) true rfl (fun _ h₁ => ?_); replace hF := hF.rely h₁; clear h₁; simp only [if_true, if_false, Bool.false_eq_true, ↓reduceIte])
  (repeat (first | ((with_reducible first | refine goes_rend ?_ ?_ | refine goes_sq ?_ ?_ | refine goes_sk ?_ ?_ | refine goes_bl ?_ ?_ | refine goes_lo ?_ ?_ | refine goes_ib ?_ ?_ | refine goes_il ?_ ?_ | refine goes_rt ?_ ?_ | refine goes_en ?_ ?_); exact termsW _ _ _; intro _ h₁; replace hF := hF.rely h₁; clear h₁) | (with_reducible refine goes_rg ?_ ?_; exact termsW _ _ _; intro _ h₁; replace hF := hF.rely h₁; clear h₁; simp only [List.size_toArray, List.length_cons, List.length_nil, Nat.reduceAdd, Nat.zero_add, List.range, List.range.loop])))
  (refine Goes.step rfl (fun w₁ h₁ => ?_); replace hF := hF.rely h₁; clear h₁; refine goes_oper_k rfl rfl (by decide) (fun K hK => ?_); have hel := hF.el; go_simp; refine hK _ _ ⟨⟨rfl, fun e he => ?_⟩, ?_⟩; (focus (have hm := mem_listed he; (simp [go_sem, *] at hm); (try (subst hm; exact evW_cell _ _ (by rw [addBlock]; exact hF.eb _ rfl (by omega)))))); (clear hK K hel); (try walk_nrm))
  (refine Goes.step rfl (fun w₁ h₁ => ?_); replace hF := hF.rely h₁; clear h₁; refine goes_oper_k rfl rfl (by decide) (fun K hK => ?_); have hel := hF.el; go_simp; refine hK _ _ ⟨⟨rfl, fun e he => ?_⟩, ?_⟩; (focus (have hm := mem_listed he; (simp [go_sem, *] at hm); (try (subst hm; exact evW_cell _ _ (by rw [addBlock]; exact hF.eb _ rfl (by omega)))))); (clear hK K hel); (try walk_nrm))
  (first | ((with_reducible first | refine goes_rend ?_ ?_ | refine goes_sq ?_ ?_ | refine goes_sk ?_ ?_ | refine goes_bl ?_ ?_ | refine goes_lo ?_ ?_ | refine goes_ib ?_ ?_ | refine goes_il ?_ ?_ | refine goes_rt ?_ ?_ | refine goes_en ?_ ?_); exact termsW _ _ _; intro _ h₁; replace hF := hF.rely h₁; clear h₁) | (with_reducible refine goes_rg ?_ ?_; exact termsW _ _ _; intro _ h₁; replace hF := hF.rely h₁; clear h₁; simp only [List.size_toArray, List.length_cons, List.length_nil, Nat.reduceAdd, Nat.zero_add, List.range, List.range.loop]))
  (first | ((with_reducible first | refine goes_rend ?_ ?_ | refine goes_sq ?_ ?_ | refine goes_sk ?_ ?_ | refine goes_bl ?_ ?_ | refine goes_lo ?_ ?_ | refine goes_ib ?_ ?_ | refine goes_il ?_ ?_ | refine goes_rt ?_ ?_ | refine goes_en ?_ ?_); exact termsW _ _ _; intro _ h₁; replace hF := hF.rely h₁; clear h₁) | (with_reducible refine goes_rg ?_ ?_; exact termsW _ _ _; intro _ h₁; replace hF := hF.rely h₁; clear h₁; simp only [List.size_toArray, List.length_cons, List.length_nil, Nat.reduceAdd, Nat.zero_add, List.range, List.range.loop]))
  refine Goes.mono (n := n₀) ?_ (by omega)
  exact next _ _ _ _ _ _ _ _ _ _ _ _ _ _ _ _ _ _ _ _ hF

set_option maxRecDepth 100000 in
/-- .. nobody wants more. -/
theorem seg24_stop (Stop : Goroutine → World → Prop) (n₀ k : Nat) (zs' : Value) (u4 u5 u6 u7 u8 u9 u10 u11 u15 u16 u17 u21 u22 u23 u24 u25 : Value) (w : World) (hF : SndK T Wg a0 n zs w)
    (next : ∀ (t : Array Value) (todo : List Item) w', SndK T Wg a0 n zs w' → Goes Try.prog false (RW (47, true) Wg T) (DW T) Stop n₀ (G { (baseD 24).at ⟨t, [dclose 54 0 cc c, dcall 39 #[.pointer (some ⟨Wg, 0, none⟩)]]⟩ todo with mode := .returning } [bot Try.prog]) w') : Goes Try.prog false (RW (47, true) Wg T) (DW T) Stop (n₀ + 30) (sel24 s c Wg a0 n cap zs cc k u4 u5 u6 u7 u8 u9 u10 u11 u15 u16 u17 (.tuple #[goInt 1, .bool false, zs']) u22 u23 u24 u25 [1, 2, 3]) w := by
  simp only [sel24, ops24s, E24, S24, B24, R24, L24, tail24b, tail24a, body24, Try.f24, Option.getD_some, goInt]
  (refine Goes.step rfl (fun w₁ h₁ => ?_); replace hF := hF.rely h₁; clear h₁; refine goes_oper_k rfl rfl (by decide) (fun K hK => ?_); have hel := hF.el; go_simp; refine hK _ _ ⟨⟨rfl, fun e he => ?_⟩, ?_⟩; (focus (have hm := mem_listed he; (simp [go_sem, *] at hm); (try (subst hm; exact evW_cell _ _ (by rw [addBlock]; exact hF.eb _ rfl (by omega)))))); (clear hK K hel); (try walk_nrm))
  (refine Goes.step rfl (fun w₁ h₁ => ?_); replace hF := hF.rely h₁; clear h₁; refine goes_oper_k rfl rfl (by decide) (fun K hK => ?_); have hel := hF.el; go_simp; refine hK _ _ ⟨⟨rfl, fun e he => ?_⟩, ?_⟩; (focus (have hm := mem_listed he; (simp [go_sem, *] at hm); (try (subst hm; exact evW_cell _ _ (by rw [addBlock]; exact hF.eb _ rfl (by omega)))))); (clear hK K hel); (try walk_nrm))
  (refine Goes.step rfl (fun w₁ h₁ => ?_); replace hF := hF.rely h₁; clear h₁; refine goes_oper_k rfl rfl (by decide) (fun K hK => ?_); have hel := hF.el; go_simp; refine hK _ _ ⟨⟨rfl, fun e he => ?_⟩, ?_⟩; (focus (have hm := mem_listed he; (simp [go_sem, *] at hm); (try (subst hm; exact evW_cell _ _ (by rw [addBlock]; exact hF.eb _ rfl (by omega)))))); (clear hK K hel); (try walk_nrm))
  (repeat (first | ((with_reducible first | refine goes_rend ?_ ?_ | refine goes_sq ?_ ?_ | refine goes_sk ?_ ?_ | refine goes_bl ?_ ?_ | refine goes_lo ?_ ?_ | refine goes_ib ?_ ?_ | refine goes_il ?_ ?_ | refine goes_rt ?_ ?_ | refine goes_en ?_ ?_); exact termsW _ _ _; intro _ h₁; replace hF := hF.rely h₁; clear h₁) | (with_reducible refine goes_rg ?_ ?_; exact termsW _ _ _; intro _ h₁; replace hF := hF.rely h₁; clear h₁; simp only [List.size_toArray, List.length_cons, List.length_nil, Nat.reduceAdd, Nat.zero_add, List.range, List.range.loop])))
  (refine goes_cd (termsW _ _ _) false rfl (fun _ h₁ => ?_); replace hF := hF.rely h₁; clear h₁; simp only [if_true, if_false, Bool.false_eq_true, ↓reduceIte])
  (refine goes_cd (termsW _ _ _) true rfl (fun _ h₁ => ?_); replace hF := hF.rely h₁; clear h₁; simp only [if_true, if_false, Bool.false_eq_true, ↓reduceIte])
  (repeat (first | ((with_reducible first | refine goes_rend ?_ ?_ | refine goes_sq ?_ ?_ | refine goes_sk ?_ ?_ | refine goes_bl ?_ ?_ | refine goes_lo ?_ ?_ | refine goes_ib ?_ ?_ | refine goes_il ?_ ?_ | refine goes_rt ?_ ?_ | refine goes_en ?_ ?_); exact termsW _ _ _; intro _ h₁; replace hF := hF.rely h₁; clear h₁) | (with_reducible refine goes_rg ?_ ?_; exact termsW _ _ _; intro _ h₁; replace hF := hF.rely h₁; clear h₁; simp only [List.size_toArray, List.length_cons, List.length_nil, Nat.reduceAdd, Nat.zero_add, List.range, List.range.loop])))
  exact (next _ _ _ hF).mono (by omega)

set_option maxRecDepth 100000 in
/-- From the head, all handed on, to the way out. -/
theorem seg24_cls (Stop : Goroutine → World → Prop) (n₀ : Nat) (u4 u5 u6 u7 u8 u9 u10 u11 u15 u16 u17 u18 u19 u20 u21 u22 u23 u24 u25 : Value) (w : World) (hF : SndK T Wg a0 n zs w)
    (next : ∀ (t : Array Value) (todo : List Item) w', SndK T Wg a0 n zs w' → Goes Try.prog false (RW (47, true) Wg T) (DW T) Stop n₀ (G { (baseD 24).at ⟨t, [dclose 54 0 cc c, dcall 39 #[.pointer (some ⟨Wg, 0, none⟩)]]⟩ todo with mode := .returning } [bot Try.prog]) w') : Goes Try.prog false (RW (47, true) Wg T) (DW T) Stop (n₀ + 12) (head24 s c Wg a0 n cap cc n u4 u5 u6 u7 u8 u9 u10 u11 u15 u16 u17 u18 u19 u20 u21 u22 u23 u24 u25) w := by
  simp only [head24, L24, tail24b, tail24a, body24, Try.f24, Option.getD_some]
  repeat (first | (first | ((with_reducible first | refine goes_rend ?_ ?_ | refine goes_sq ?_ ?_ | refine goes_sk ?_ ?_ | refine goes_bl ?_ ?_ | refine goes_lo ?_ ?_ | refine goes_ib ?_ ?_ | refine goes_il ?_ ?_ | refine goes_rt ?_ ?_ | refine goes_en ?_ ?_); exact termsW _ _ _; intro _ h₁; replace hF := hF.rely h₁; clear h₁) | (with_reducible refine goes_rg ?_ ?_; exact termsW _ _ _; intro _ h₁; replace hF := hF.rely h₁; clear h₁; simp only [List.size_toArray, List.length_cons, List.length_nil, Nat.reduceAdd, Nat.zero_add, List.range, List.range.loop])) | (refine Goes.step rfl (fun w₁ h₁ => ?_); replace hF := hF.rely h₁; clear h₁; refine goes_oper_k rfl rfl (by decide) (fun K hK => ?_); have hel := hF.el; go_simp; refine hK _ _ ⟨⟨rfl, fun e he => ?_⟩, ?_⟩; (focus (have hm := mem_listed he; (simp [go_sem, *] at hm); (try (subst hm; exact evW_cell _ _ (by rw [addBlock]; exact hF.eb _ rfl (by omega)))))); (clear hK K hel); (try walk_nrm)))
  (refine goes_cd (termsW _ _ _) false rfl (fun _ h₁ => ?_); replace hF := hF.rely h₁; clear h₁; simp only [if_true, if_false, Bool.false_eq_true, ↓reduceIte])
  (refine goes_c (termsW _ _ _) rfl (fun _ => stepG_exit rfl) (fun _ h₁ => ?_); replace hF := hF.rely h₁; clear h₁)
  refine Goes.step rfl (fun _ h₁ => ?_)
  rw [stepG_end]
  simp only [goes_go]
  refine ⟨⟨rfl, by simp⟩, ?_⟩
  exact (next _ _ _ (hF.rely h₁)).mono (by omega)

/-- On its way out. -/
theorem out24 (t : Array Value) (todo : List Item) (w : World) (hF : SndK T Wg a0 n zs w) : stopW Try.prog zi (47, true) Wg T 0 (tailW Wg c) (G { (baseD 24).at ⟨t, [dclose 54 0 cc c, dcall 39 #[.pointer (some ⟨Wg, 0, none⟩)]]⟩ todo with mode := .returning } [bot Try.prog]) w := by
  show AtP Try.prog zi (47, true) Wg false (RW (47, true) Wg T) (fun _ => EvW T) (FollowW Try.prog zi (47, true) Wg T 0 [.say (.releaseMerge (stA Wg)), .say .disable, .dec 3, .ldl, .clr, .rls]) (FollowW Try.prog zi (47, true) Wg T 0 [.say (.releaseMerge (stA Wg)), .say .disable, .dec 3, .ldl, .clr, .rls]) (fun _ => FollowW Try.prog zi (47, true) Wg T 0 [.say (.releaseMerge (stA Wg)), .say .disable, .dec 3, .ldl, .clr, .rls]) _ w (.cls c)
  refine atCls_of (a := ⟨t, [dclose 54 0 cc c, dcall 39 #[.pointer (some ⟨Wg, 0, none⟩)]]⟩) (ds := [dcall 39 #[.pointer (some ⟨Wg, 0, none⟩)]]) (t := 54) (u := 0) (cc := cc) (f := 24) (fn := Try.f24) Try.func24 (by simp only []) (by simp only [Try.f24]) fun s r tm hc w₂ r₂ => ?_
  have hlv : WgLive 47 Wg (w.shut c s r tm) := live_put hc hF.lv
  have hlv2 := r₂.live rfl hlv
  refine followW_of (p := .say (.releaseMerge (stA Wg))) (n := 40 + 1) (Goes.step rfl fun w₃ r₃ => ?_)
  have hlv3 := r₃.live rfl hlv2
  have hst := stepG_unwind_enter (P := Try.prog) (main := false) (w := w₃) (b := baseD 24) (a := ⟨t, [dcall 39 #[.pointer (some ⟨Wg, 0, none⟩)]]⟩) (todo := todo) (cs := [bot Try.prog]) (f := 39) (ds := []) (args := #[.pointer (some ⟨Wg, 0, none⟩)]) (fn := Try.f39) (c := body39) rfl Try.func39 (by simp [Try.f39]) (by simp [Try.f39, body39])
  have e : (#[.pointer (some ⟨Wg, 0, none⟩)] : Array Value) ++ Array.replicate (Try.f39.ntmps - (#[.pointer (some ⟨Wg, 0, none⟩)] : Array Value).size) undef = #[.pointer (some ⟨Wg, 0, none⟩), undef, undef, undef] := by simp only [Try.f39]; rfl
  rw [e] at hst
  rw [hst]
  simp only [goes_go]
  have hD : DWp T (.say (.releaseMerge (stA Wg))) = DW T := by simp [DWp, Pr.quiet]
  refine ⟨by rw [hD]; exact ⟨rfl, by simp⟩, ?_⟩
  exact done_follows T Wg rfl (QE.leaveBot rfl rfl Try.func24 (by simp only [Try.f24])) w₃ hlv3

set_option maxRecDepth 100000 in
theorem at24_sel (ps : List Pr) (j k : Nat) (u4 u5 u6 u7 u8 u9 u10 u11 u15 u16 u17 u21 u22 u23 u24 u25 : Value) (w : World)
    (next : ∀ zs' w₂, RW (47, true) Wg T w w₂ → FollowW Try.prog zi (47, true) Wg T 0 ps (sel24 s c Wg a0 n cap zs cc k u4 u5 u6 u7 u8 u9 u10 u11 u15 u16 u17 (.tuple #[goInt 0, .bool false, zs']) u22 u23 u24 u25 [1, 2, 3]) w₂)
    (nxt2 : ∀ zs' w₂, RW (47, true) Wg T w w₂ → FollowW Try.prog zi (47, true) Wg T 0 (ps.drop j) (sel24 s c Wg a0 n cap zs cc k u4 u5 u6 u7 u8 u9 u10 u11 u15 u16 u17 (.tuple #[goInt 1, .bool false, zs']) u22 u23 u24 u25 [1, 2, 3]) w₂) :
    stopW Try.prog zi (47, true) Wg T 0 (.sel c (iv (zs[k]?.getD 0)) s j :: ps) (sel24 s c Wg a0 n cap zs cc k u4 u5 u6 u7 u8 u9 u10 u11 u15 u16 u17 u21 u22 u23 u24 u25 [0, 1, 2, 3]) w :=
  show AtP Try.prog zi (47, true) Wg false (RW (47, true) Wg T) (fun _ => EvW T) (FollowW Try.prog zi (47, true) Wg T 0 ps) (FollowW Try.prog zi (47, true) Wg T 0 (ps.drop j)) (fun _ => FollowW Try.prog zi (47, true) Wg T 0 ps) _ w (.sel c (iv (zs[k]?.getD 0)) s j) from
  atSel_of (b := baseD 24) (a := ⟨#[.slice a0 n cap, .chan (some c), .chan (some s), .pointer (some ⟨Wg, 0, none⟩), u4, u5, u6, u7, u8, u9, u10, u11, .slice a0 n cap, .int .i64 n, .int .i64 k, u15, u16, u17, .chan (some c), iv (zs[k]?.getD 0), .chan (some s), u21, u22, u23, u24, u25], [dclose 54 0 cc c, dcall 39 #[.pointer (some ⟨Wg, 0, none⟩)]]⟩) (z := zi) (ops := ops24s) (z' := iv 0) (zs := .agg #[]) (o := { dst := some 21, op := .select #[{ chan := .tmp 18, send := some (.tmp 19), elem := 3 }, { chan := .tmp 20, send := none, elem := 38 }] true, type := 0, pos := "crew.go:93", after := #[], guard := none }) rfl rfl (by decide) (by go_simp; rfl) (by go_simp; try rfl) (fun w₂ h₂ => next _ w₂ h₂) (fun w₂ h₂ => nxt2 _ w₂ h₂)

theorem followW_ne {ps : List Pr} {Q : Program} {z : Nat → Value} {ty : TypeId × Bool} {d m : Nat} {g : Goroutine} {w : World} (hne : ∃ p r, ps = p :: r ∧ p.quiet = false) (h : Goes Q false (RW ty Wg T) (DW T) (stopW Q z ty Wg T d ps) m g w) : FollowW Q z ty Wg T d ps g w := by
  obtain ⟨p, r, rfl, hq⟩ := hne
  refine followW_of (n := m) ?_
  have hD : DWp T p = DW T := by simp [DWp, hq]
  rw [hD]; exact h
theorem kidS_head (l : List Value) : ∃ p r, kidS s Wg c l = p :: r ∧ p.quiet = false := by
  cases l with
  | nil => exact ⟨_, _, rfl, rfl⟩
  | cons v l => exact ⟨_, _, rfl, rfl⟩

/-- THE SENDER's SCRIPT, from the loop's head: k handed on. -/
theorem snd_from (hn : n ≤ 9223372036854775807) (hz : zs.length = n) (hnil : 0 < n → ∃ ad, a0 = some ad) : ∀ (m k : Nat), k + m = n → ∃ n', ∀ (cc : Array Bool) (u4 u5 u6 u7 u8 u9 u10 u11 u15 u16 u17 u18 u19 u20 u21 u22 u23 u24 u25 : Value) (w : World), SndK T Wg a0 n zs w →
    Goes Try.prog false (RW (47, true) Wg T) (DW T) (stopW Try.prog zi (47, true) Wg T 0 (kidS s Wg c ((zs.drop k).map iv))) n' (head24 s c Wg a0 n cap cc k u4 u5 u6 u7 u8 u9 u10 u11 u15 u16 u17 u18 u19 u20 u21 u22 u23 u24 u25) w := by
  intro m
  induction m with
  | zero =>
    intro k hk
    obtain rfl : k = n := by omega
    have e : kidS s Wg c ((zs.drop k).map iv) = tailW Wg c := by simp [List.drop_eq_nil_of_le (show zs.length ≤ k by omega), kidS, sels]
    rw [e]
    exact ⟨0 + 12, fun cc u4 u5 u6 u7 u8 u9 u10 u11 u15 u16 u17 u18 u19 u20 u21 u22 u23 u24 u25 w hF => seg24_cls T s c Wg a0 k cap zs cc _ 0 u4 u5 u6 u7 u8 u9 u10 u11 u15 u16 u17 u18 u19 u20 u21 u22 u23 u24 u25 w hF fun t todo w' hF => Goes.stop fun w₁ r₁ => out24 T c Wg a0 k zs cc t todo w₁ (hF.rely r₁)⟩
  | succ m ih =>
    intro k hk
    obtain ⟨n₁, h₁⟩ := ih (k + 1) (by omega)
    have e : kidS s Wg c ((zs.drop k).map iv) = .sel c (iv (zs[k]?.getD 0)) s ((zs.drop (k + 1)).map iv).length :: kidS s Wg c ((zs.drop (k + 1)).map iv) := by
      rw [List.drop_eq_getElem_cons (by omega), List.map_cons, List.getElem?_eq_getElem (by omega)]; simp [kidS, sels]
    rw [e]
    refine ⟨0 + 40, fun cc u4 u5 u6 u7 u8 u9 u10 u11 u15 u16 u17 u18 u19 u20 u21 u22 u23 u24 u25 w hF => seg24_sel T s c Wg a0 n cap zs cc _ 0 k (by omega) (hnil (by omega)) u4 u5 u6 u7 u8 u9 u10 u11 u15 u16 u17 u18 u19 u20 u21 u22 u23 u24 u25 w hF fun u4 u5 u6 u7 u8 u9 u10 u11 u15 u16 u17 u21 u22 u23 u24 u25 w' hF => Goes.stop fun w₁ r₁ => at24_sel T s c Wg a0 n cap zs cc _ _ k u4 u5 u6 u7 u8 u9 u10 u11 u15 u16 u17 u21 u22 u23 u24 u25 w₁ (fun z' w₂ r₂ => ?_) (fun z' w₂ r₂ => ?_)⟩
    · exact followW_ne T Wg (kidS_head s c Wg _) (seg24_next T s c Wg a0 n cap zs cc _ n₁ k (by omega) hn z' u4 u5 u6 u7 u8 u9 u10 u11 u15 u16 u17 u21 u22 u23 u24 u25 w₂ ((hF.rely r₁).rely r₂) fun u4 u5 u6 u7 u8 u9 u10 u11 u15 u16 u17 u18 u19 u20 u21 u22 u23 u24 u25 w' hF => h₁ cc u4 u5 u6 u7 u8 u9 u10 u11 u15 u16 u17 u18 u19 u20 u21 u22 u23 u24 u25 w' hF)
    · rw [kidS_drop]
      exact followW_ne T Wg ⟨_, _, rfl, rfl⟩ (seg24_stop T s c Wg a0 n cap zs cc _ 0 k z' u4 u5 u6 u7 u8 u9 u10 u11 u15 u16 u17 u21 u22 u23 u24 u25 w₂ ((hF.rely r₁).rely r₂) fun t todo w' hF => Goes.stop fun w₃ r₃ => out24 T c Wg a0 n zs cc t todo w₃ (hF.rely r₃))
end

/-- A SENDER, from its birth. -/
theorem snd_follows (T : List Nat) (s c Wg : Nat) (a0 : Option Addr) (n cap : Nat) (zs : List Int) (hn : n ≤ 9223372036854775807) (hz : zs.length = n) (hnil : 0 < n → ∃ ad, a0 = some ad) (w : World) (hF : SndK T Wg a0 n zs w) :
    FollowW Try.prog zi (47, true) Wg T 0 (kidS s Wg c (zs.map iv)) (born Try.prog { target := .fn (.func 24) #[], args := #[.slice a0 n cap, .chan (some c), .chan (some s), .pointer (some ⟨Wg, 0, none⟩)] }) w := by
  obtain ⟨m, h⟩ := snd_from T s c Wg a0 n cap zs hn hz hnil n 0 (by omega)
  refine followW_ne T Wg (kidS_head s c Wg _) (m := m + 30 + 1) (Goes.step rfl fun w₁ r₁ => ?_)
  rw [stepG_born (fn := Try.f24) (c := body24) Try.func24 (by simp [Try.f24]) (by simp [Try.f24, body24])]
  simp only [goes_go]
  have e : (#[.slice a0 n cap, .chan (some c), .chan (some s), .pointer (some ⟨Wg, 0, none⟩)] ++ #[]) ++ Array.replicate (Try.f24.ntmps - (#[.slice a0 n cap, .chan (some c), .chan (some s), .pointer (some ⟨Wg, 0, none⟩)] ++ #[] : Array Value).size) undef = #[.slice a0 n cap, .chan (some c), .chan (some s), .pointer (some ⟨Wg, 0, none⟩), undef, undef, undef, undef, undef, undef, undef, undef, undef, undef, undef, undef, undef, undef, undef, undef, undef, undef, undef, undef, undef, undef] := by simp only [Try.f24]; walk_nrm
  rw [e]
  refine ⟨⟨rfl, by simp⟩, ?_⟩
  exact seg24_entry T s c Wg a0 n cap zs _ m w₁ (hF.rely r₁) fun cc u4 u5 u6 u7 u8 u9 u10 u11 u15 u16 u17 u18 u19 u20 u21 u22 u23 u24 u25 w' hF => h cc u4 u5 u6 u7 u8 u9 u10 u11 u15 u16 u17 u18 u19 u20 u21 u22 u23 u24 u25 w' hF
end Go.Proofs.Ytplndihadjfliaa.Mix
