/-
  CREW: the walk of crew.Relay from its entry: goroutine 0 follows the row's script.
-/
import Derived.Test.YtplndihadjfliaaM3
import Derived.Conc.CompanyMem
import Derived.Conc.CompanyCalls
set_option linter.unusedSimpArgs false
set_option linter.unusedVariables false
set_option maxHeartbeats 2000000
namespace Go.Proofs.Ytplndihadjfliaa.Net
open Go Go.Conc Go.ConcN Go.Proofs Go.RowKit

theorem DM_of_below' {B : Nat} {T ch : List Nat} (hT : ∀ b ∈ T, b < B) (hc : ∀ c ∈ ch, c < B) {w w' : World} {es : Array Event} (h : Below B w w') (he : ∀ e ∈ es, EvM T e) : DM T ch w w' es :=
  ⟨fun b hb => h.block b (hT b hb), fun b hb => h.block b (hc b hb), he⟩

/-- Ahead of the go statement: j blocks have been made. -/
structure RE (N : Nat) (W : World) (ch : List Nat) (j : Nat) (w : World) : Prop where
  os : w.os = W.os
  tape : w.tape = W.tape
  output : w.output = W.output
  sz : w.heap.size = N + j
  old : ∀ b, b < N → b ∉ ch → w.heap[b]? = W.heap[b]?
  chN : ∀ c ∈ ch, c < N
/-- .. the values' box; the first channel; its variable. -/
structure RE1 (N : Nat) (W : World) (ch : List Nat) (a0 : Option Addr) (n cap : Nat) (j : Nat) (w : World) : Prop where
  re : RE N W ch j w
  bxv : w.cell? ⟨N, 0, none⟩ = some (.slice a0 n cap)
structure RE2 (N : Nat) (W : World) (ch : List Nat) (a0 : Option Addr) (n cap : Nat) (j : Nat) (w : World) : Prop where
  r1 : RE1 N W ch a0 n cap j w
  chn : ∃ s r tm, w.heap[N + 1]? = some (.chan 0 #[] false s r tm)
structure RE3 (N : Nat) (W : World) (ch : List Nat) (a0 : Option Addr) (n cap : Nat) (u : Value) (w : World) : Prop where
  r2 : RE2 N W ch a0 n cap 3 w
  clv : w.cell? ⟨N + 2, 0, none⟩ = some u
  frz : w.frozen? ⟨N + 2, 0, none⟩ = false

section
variable {N : Nat} {W : World} {ch : List Nat} {a0 : Option Addr} {n cap j : Nat} {u : Value} {w w₁ : World}
theorem RE.rely (h : RE N W ch j w) (r : RC ch w w₁) : RE N W ch j w₁ :=
  ⟨r.os.trans h.os, r.tape.trans h.tape, r.output.trans h.output, r.size.trans h.sz, fun b h1 h2 => (r.block b h2).trans (h.old b h1 h2), h.chN⟩
theorem RE.new (h : RE N W ch j w) (r : RC ch w w₁) {b : Nat} (hb : N ≤ b) : w₁.heap[b]? = w.heap[b]? := r.block b fun hc => by have := h.chN b hc; omega
theorem RE1.rely (h : RE1 N W ch a0 n cap j w) (r : RC ch w w₁) : RE1 N W ch a0 n cap j w₁ := ⟨h.re.rely r, (World.cell?_of_block (h.re.new r (b := N) (by omega))).trans h.bxv⟩
theorem RE2.rely (h : RE2 N W ch a0 n cap j w) (r : RC ch w w₁) : RE2 N W ch a0 n cap j w₁ :=
  let ⟨s, r', tm, hc⟩ := h.chn
  ⟨h.r1.rely r, s, r', tm, (h.r1.re.new r (b := N + 1) (by omega)).trans hc⟩
theorem RE3.rely (h : RE3 N W ch a0 n cap u w) (r : RC ch w w₁) : RE3 N W ch a0 n cap u w₁ := ⟨h.r2.rely r, (World.cell?_of_block (h.r2.r1.re.new r (b := N + 2) (by omega))).trans h.clv, (World.frozen?_of_block (h.r2.r1.re.new r (b := N + 2) (by omega))).trans h.frz⟩
theorem RE.alloc (h : RE N W ch j w) (o : Obj) : RE N W ch (j + 1) (w.alloc o) :=
  ⟨h.os, h.tape, h.output, by simp [h.sz]; omega, fun b h1 h2 => (Below.heap_alloc _ _ _ (by rw [h.sz]; omega)).trans (h.old b h1 h2), h.chN⟩
theorem RE.box (h : RE N W ch 0 w) (e : TypeId) : RE1 N W ch a0 n cap 1 (w.alloc (.cells #[.slice a0 n cap] e)) :=
  ⟨h.alloc _, by rw [World.cell?_alloc_at _ _ _ _ (by rw [h.sz]; rfl)]; rfl⟩
theorem RE1.chan (h : RE1 N W ch a0 n cap 1 w) (s r : Nat) (tm : Bool) : RE2 N W ch a0 n cap 2 (w.alloc (.chan 0 #[] false s r tm)) :=
  ⟨⟨h.re.alloc _, by rw [World.cell?_alloc_past _ _ _ (by rw [h.re.sz]; show N < N + 1; omega)]; exact h.bxv⟩, s, r, tm, by rw [← h.re.sz]; exact heap_alloc_new w _⟩
theorem RE2.var (h : RE2 N W ch a0 n cap 2 w) (u : Value) (e : TypeId) : RE3 N W ch a0 n cap u (w.alloc (.cells #[u] e)) :=
  let ⟨s, r', tm, hc⟩ := h.chn
  ⟨⟨⟨h.r1.re.alloc _, by rw [World.cell?_alloc_past _ _ _ (by rw [h.r1.re.sz]; show N < N + 2; omega)]; exact h.r1.bxv⟩, s, r', tm, by rw [Below.heap_alloc _ _ _ (by rw [h.r1.re.sz]; omega)]; exact hc⟩, by rw [World.cell?_alloc_at _ _ _ _ (by rw [h.r1.re.sz])]; rfl, World.frozen?_alloc_at _ _ _ _ (by rw [h.r1.re.sz])⟩
theorem RE3.set (h : RE3 N W ch a0 n cap u w) (v : Value) : RE3 N W ch a0 n cap v (w.setCell ⟨N + 2, 0, none⟩ v) :=
  let ⟨s, r', tm, hc⟩ := h.r2.chn
  have hb := fun (k : Nat) (hk : k ≠ N + 2) => Below.heap_setCell w ⟨N + 2, 0, none⟩ v k hk
  ⟨⟨⟨⟨h.r2.r1.re.os, h.r2.r1.re.tape, h.r2.r1.re.output, by simp [World.setCell, h.r2.r1.re.sz], fun b h1 h2 => (hb b (by omega)).trans (h.r2.r1.re.old b h1 h2), h.r2.r1.re.chN⟩, (World.cell?_of_block (hb N (by omega))).trans h.r2.r1.bxv⟩, s, r', tm, (hb (N + 1) (by omega)).trans hc⟩,
    World.cell?_setCell_same w ⟨N + 2, 0, none⟩ v h.clv, by rw [World.frozen?_setCell]; exact h.frz⟩
end


section
variable (N : Nat) (W : World) (ch : List Nat) (a0 : Option Addr) (n cap : Nat) (b0 : Option Addr) (m capb : Nat) (cs : List Frame)

noncomputable def go8 (u3 u4 u6 u7 u8 u9 u10 u11 u12 u13 u14 u15 u17 u18 u19 u20 u21 u22 u23 u24 u25 u26 u27 u28 u29 u30 u31 u32 u33 u34 u35 u36 u37 u38 : Value) (rest : List Nat) : Goroutine :=
  G ((base 8).at ⟨#[.slice a0 n cap, .slice b0 m capb, .pointer (some ⟨N, 0, none⟩), u3, u4, .pointer (some ⟨N + 2, 0, none⟩), u6, u7, u8, u9, u10, u11, u12, u13, u14, u15, .func (.func 19) #[] #[.pointer (some ⟨N + 2, 0, none⟩), .pointer (some ⟨N, 0, none⟩)], u17, u18, u19, u20, u21, u22, u23, u24, u25, u26, u27, u28, u29, u30, u31, u32, u33, u34, u35, u36, u37, u38], []⟩ [.inRegion ops8g rest, .code tail8b]) cs
noncomputable def entry8 : Goroutine := G ((base 8).at ⟨#[.slice a0 n cap, .slice b0 m capb, undef, undef, undef, undef, undef, undef, undef, undef, undef, undef, undef, undef, undef, undef, undef, undef, undef, undef, undef, undef, undef, undef, undef, undef, undef, undef, undef, undef, undef, undef, undef, undef, undef, undef, undef, undef, undef], []⟩ [.code body8]) cs

set_option maxRecDepth 100000 in
/-- From the entry to the first go statement. -/
theorem seg8_go (T : List Nat) (Stop : Goroutine → World → Prop) (n₀ : Nat) (hm64 : m ≤ 64) (hT : ∀ b ∈ T, b < N) (w : World) (hF : RE N W ch 0 w)
    (next : ∀ (u3 u4 u6 u7 u8 u9 u10 u11 u12 u13 u14 u15 u17 u18 u19 u20 u21 u22 u23 u24 u25 u26 u27 u28 u29 u30 u31 u32 u33 u34 u35 u36 u37 u38 : Value) w', RE3 N W ch a0 n cap (.chan (some (N + 1))) w' → Goes Try.prog true (RC ch) (DM T ch) Stop n₀ (go8 N a0 n cap b0 m capb cs u3 u4 u6 u7 u8 u9 u10 u11 u12 u13 u14 u15 u17 u18 u19 u20 u21 u22 u23 u24 u25 u26 u27 u28 u29 u30 u31 u32 u33 u34 u35 u36 u37 u38 [1]) w') : Goes Try.prog true (RC ch) (DM T ch) Stop (n₀ + 60) (entry8 a0 n cap b0 m capb cs) w := by
  have hTl : ∀ b ∈ T, b < 0 ∨ 0 = 0 := fun _ _ => .inr rfl
  have hcl : ∀ b ∈ ch, b < 0 ∨ 0 = 0 := fun _ _ => .inr rfl
  have hc2 : ∀ b ∈ ch, b < N := hF.chN
  have hg : ¬ ((64 : Int) < (m : Int)) := by omega
  simp only [entry8, go8, ops8g, tail8b, tail8a, body8, Try.f8, Option.getD_some] at next ⊢
  (refine Goes.step rfl (fun _ h₁ => ?_); walk_rw; refine ⟨DM_of_below (B := 0) hTl hcl (Below.refl _ _) (by simp), ?_⟩; replace hF := hF.rely h₁; clear h₁)
  (refine Goes.step rfl (fun _ h₁ => ?_); walk_rw; refine ⟨DM_of_below (B := 0) hTl hcl (Below.refl _ _) (by simp), ?_⟩; replace hF := hF.rely h₁; clear h₁)
  refine Goes.step rfl (fun w₁ h₁ => ?_)
  replace hF := hF.rely h₁
  clear h₁
  refine goes_oper_k rfl rfl (by decide) (fun K hK => ?_)
  go_simp
  refine hK _ _ ⟨DM_of_below' hT hc2 ((Below.refl _ _).alloc (by rw [hF.sz]; omega) _) (fun e he => ?_), ?_⟩
  · have hm := mem_listed he
    simp [go_sem] at hm
  clear hK K
  have esz := hF.sz
  replace hF := hF.box (a0 := a0) (n := n) (cap := cap) 22
  rw [esz, Nat.add_zero]
  clear esz
  (refine Goes.step rfl (fun w₁ h₁ => ?_); replace hF := hF.rely h₁; clear h₁; refine goes_oper_k rfl rfl (by decide) (fun K hK => ?_); go_simp; refine hK _ _ ⟨DM_of_below (B := 0) hTl hcl (Below.refl _ _) (fun e he => ?_), ?_⟩; (focus (have hm := mem_listed he; (simp [go_sem, *] at hm); (try (subst hm; exact evM_read _ _ (by simp))))); (clear hK K); (try walk_nrm))
  repeat (first | (refine Goes.step rfl (fun _ h₁ => ?_); walk_rw; refine ⟨DM_of_below (B := 0) hTl hcl (Below.refl _ _) (by simp), ?_⟩; replace hF := hF.rely h₁; clear h₁) | (refine Goes.step rfl (fun w₁ h₁ => ?_); replace hF := hF.rely h₁; clear h₁; refine goes_oper_k rfl rfl (by decide) (fun K hK => ?_); go_simp; refine hK _ _ ⟨DM_of_below (B := 0) hTl hcl (Below.refl _ _) (fun e he => ?_), ?_⟩; (focus (have hm := mem_listed he; (simp [go_sem, *] at hm); (try (subst hm; exact evM_read _ _ (by simp))))); (clear hK K); (try walk_nrm)))
  (refine Goes.step rfl (fun _ h₁ => ?_); rw [stepG_cond (t := false) rfl]; simp only [goes_go, if_true, if_false, Bool.false_eq_true, ↓reduceIte]; refine ⟨DM_of_below (B := 0) hTl hcl (Below.refl _ _) (by simp), ?_⟩; replace hF := hF.rely h₁; clear h₁)
  (refine Goes.step rfl (fun _ h₁ => ?_); walk_rw; refine ⟨DM_of_below (B := 0) hTl hcl (Below.refl _ _) (by simp), ?_⟩; replace hF := hF.rely h₁; clear h₁)
  (refine Goes.step rfl (fun _ h₁ => ?_); walk_rw; refine ⟨DM_of_below (B := 0) hTl hcl (Below.refl _ _) (by simp), ?_⟩; replace hF := hF.rely h₁; clear h₁)
  (refine Goes.step rfl (fun _ h₁ => ?_); walk_rw; refine ⟨DM_of_below (B := 0) hTl hcl (Below.refl _ _) (by simp), ?_⟩; replace hF := hF.rely h₁; clear h₁)
  refine Goes.step rfl (fun w₁ h₁ => ?_)
  replace hF := hF.rely h₁
  clear h₁
  refine goes_oper_k rfl rfl (by decide) (fun K hK => ?_)
  go_simp
  refine hK _ _ ⟨DM_of_below' hT hc2 ((Below.refl _ _).alloc (by rw [hF.re.sz]; omega) _) (fun e he => ?_), ?_⟩
  · have hm := mem_listed he
    simp [go_sem] at hm
  clear hK K
  have esz := hF.re.sz
  replace hF := hF.chan 0 0 false
  rw [esz]
  clear esz
  refine Goes.step rfl (fun w₁ h₁ => ?_)
  replace hF := hF.rely h₁
  clear h₁
  refine goes_oper_k rfl rfl (by decide) (fun K hK => ?_)
  go_simp
  refine hK _ _ ⟨DM_of_below' hT hc2 ((Below.refl _ _).alloc (by rw [hF.r1.re.sz]; omega) _) (fun e he => ?_), ?_⟩
  · have hm := mem_listed he
    simp [go_sem] at hm
  clear hK K
  have esz := hF.r1.re.sz
  replace hF := hF.var (.chan none) 33
  rw [esz]
  clear esz
  refine Goes.step rfl (fun w₁ h₁ => ?_)
  replace hF := hF.rely h₁
  clear h₁
  refine goes_oper_k rfl rfl (by decide) (fun K hK => ?_)
  have hx := hF.clv
  have hfz := hF.frz
  go_simp
  refine hK _ _ ⟨DM_of_below' hT hc2 ((Below.refl _ _).setCell (by show N ≤ N + 2; omega) _) (fun e he => ?_), ?_⟩
  · have hm := mem_listed he
    simp [go_sem, *] at hm
    subst hm
    exact evM_write _ _ fun h => by have := hT _ h; simp only at this; omega
  clear hK K hx hfz
  replace hF := hF.set (.chan (some (N + 1)))
  try walk_nrm
  (refine Goes.step rfl (fun _ h₁ => ?_); walk_rw; refine ⟨DM_of_below (B := 0) hTl hcl (Below.refl _ _) (by simp), ?_⟩; replace hF := hF.rely h₁; clear h₁)
  (refine Goes.step rfl (fun _ h₁ => ?_); walk_rw; refine ⟨DM_of_below (B := 0) hTl hcl (Below.refl _ _) (by simp), ?_⟩; replace hF := hF.rely h₁; clear h₁)
  (refine Goes.step rfl (fun _ h₁ => ?_); walk_rw; refine ⟨DM_of_below (B := 0) hTl hcl (Below.refl _ _) (by simp), ?_⟩; replace hF := hF.rely h₁; clear h₁)
  (refine Goes.step rfl (fun w₁ h₁ => ?_); replace hF := hF.rely h₁; clear h₁; refine goes_oper_k rfl rfl (by decide) (fun K hK => ?_); go_simp; refine hK _ _ ⟨DM_of_below (B := 0) hTl hcl (Below.refl _ _) (fun e he => ?_), ?_⟩; (focus (have hm := mem_listed he; (simp [go_sem, *] at hm); (try (subst hm; exact evM_read _ _ (by simp))))); (clear hK K); (try walk_nrm))
  refine Goes.mono (n := n₀) ?_ (by omega)
  exact next _ _ _ _ _ _ _ _ _ _ _ _ _ _ _ _ _ _ _ _ _ _ _ _ _ _ _ _ _ _ _ _ _ _ _ hF

/-- The values' block. -/
def vblk (a0 : Option Addr) (n : Nat) : List Nat := if 0 < n then (match a0 with | some ad => [ad.block] | none => []) else []
theorem vblk_mem {a0 : Option Addr} {n b : Nat} (h : b ∈ vblk a0 n) : ∃ ad, a0 = some ad ∧ 0 < n ∧ b = ad.block := by
  unfold vblk at h
  split at h
  · rename_i hn
    cases a0 with
    | none => cases h
    | some ad => exact ⟨ad, rfl, hn, by simpa using h⟩
  · cases h
theorem vblk_in {a0 : Option Addr} {n : Nat} (ad : Addr) (h : a0 = some ad) (hn : 0 < n) : ad.block ∈ vblk a0 n := by
  subst h; simp [vblk, hn]

/-- What the source reads. -/
def srcT (N : Nat) (a0 : Option Addr) (n : Nat) : List Nat := N :: (N + 2) :: vblk a0 n

/-- A go statement of a function literal. -/
theorem run_go_lit {P : Program} {a : Act} {o : Oper} {f : FuncId} {x : Operand} {cap : Array Value} (hop : o.op = .go { callee := .value x, args := #[], argTypes := #[] }) (hx : a.eval x = .func (.func f) #[] cap) (w : World) :
    (execOp a.eval o).run P w = .ok (.spawn { target := .fn (.func f) cap, args := #[] }) w ∧ (execOp a.eval o).events P w #[] = #[] := by
  constructor
  · unfold execOp
    simp [hop, resolve, Deferred.ofValue, hx]
  · unfold execOp
    simp [hop, resolve, Deferred.ofValue, hx]

set_option maxRecDepth 100000 in
/-- AT THE FIRST go STATEMENT. -/
theorem at8_go {Post : List Nat → List Nat → Goroutine → World → Prop} (T : List Nat) (hT : ∀ b ∈ T, b < N) (zs : List Int) (hn : n ≤ 9223372036854775807) (hz : zs.length = n) (hnil : 0 < n → ∃ ad, a0 = some ad)
    (ha : ∀ ad, a0 = some ad → 0 < n → ad.block < N ∧ ad.block ∉ ch) (al : List Do) (u3 u4 u6 u7 u8 u9 u10 u11 u12 u13 u14 u15 u17 u18 u19 u20 u21 u22 u23 u24 u25 u26 u27 u28 u29 u30 u31 u32 u33 u34 u35 u36 u37 u38 : Value) (w : World) (hF : RE3 N W ch a0 n cap (.chan (some (N + 1))) w)
    (hel : ∀ j ad, j < n → a0 = some ad → w.cell? (ad.add j) = some (.int .i64 (zs[j]?.getD 0)))
    (next : FollowM Try.prog zi Post al (srcT N a0 n ++ T) ((N + 1) :: ch) (go8 N a0 n cap b0 m capb cs u3 u4 u6 u7 u8 u9 u10 u11 u12 u13 u14 u15 u17 u18 u19 u20 u21 u22 u23 u24 u25 u26 u27 u28 u29 u30 u31 u32 u33 u34 u35 u36 u37 u38 []) w) :
    stopM Try.prog zi Post (.fork (srcT N a0 n) [N + 1] (src (N + 1) (zs.map iv)) :: al) T ch (go8 N a0 n cap b0 m capb cs u3 u4 u6 u7 u8 u9 u10 u11 u12 u13 u14 u15 u17 u18 u19 u20 u21 u22 u23 u24 u25 u26 u27 u28 u29 u30 u31 u32 u33 u34 u35 u36 u37 u38 [1]) w := by
  obtain ⟨hr, he⟩ := run_go_lit (P := Try.prog) (a := ⟨#[.slice a0 n cap, .slice b0 m capb, .pointer (some ⟨N, 0, none⟩), u3, u4, .pointer (some ⟨N + 2, 0, none⟩), u6, u7, u8, u9, u10, u11, u12, u13, u14, u15, .func (.func 19) #[] #[.pointer (some ⟨N + 2, 0, none⟩), .pointer (some ⟨N, 0, none⟩)], u17, u18, u19, u20, u21, u22, u23, u24, u25, u26, u27, u28, u29, u30, u31, u32, u33, u34, u35, u36, u37, u38], []⟩) (o := { dst := none, op := .go { callee := .value (.tmp 16), args := #[], argTypes := #[] }, type := 0, pos := "crew.go:69", after := #[{ on := 0, ground := .data }], guard := none }) (f := 19) (x := .tmp 16) (cap := #[.pointer (some ⟨N + 2, 0, none⟩), .pointer (some ⟨N, 0, none⟩)]) rfl (by simp [Act.eval]) w
  have hst : stepG Try.prog true (go8 N a0 n cap b0 m capb cs u3 u4 u6 u7 u8 u9 u10 u11 u12 u13 u14 u15 u17 u18 u19 u20 u21 u22 u23 u24 u25 u26 u27 u28 u29 u30 u31 u32 u33 u34 u35 u36 u37 u38 [1]) w = .spawn (go8 N a0 n cap b0 m capb cs u3 u4 u6 u7 u8 u9 u10 u11 u12 u13 u14 u15 u17 u18 u19 u20 u21 u22 u23 u24 u25 u26 u27 u28 u29 u30 u31 u32 u33 u34 u35 u36 u37 u38 []) (born Try.prog { target := .fn (.func 19) #[.pointer (some ⟨N + 2, 0, none⟩), .pointer (some ⟨N, 0, none⟩)], args := #[] }) w (listed Try.prog 8 ⟨#[.slice a0 n cap, .slice b0 m capb, .pointer (some ⟨N, 0, none⟩), u3, u4, .pointer (some ⟨N + 2, 0, none⟩), u6, u7, u8, u9, u10, u11, u12, u13, u14, u15, .func (.func 19) #[] #[.pointer (some ⟨N + 2, 0, none⟩), .pointer (some ⟨N, 0, none⟩)], u17, u18, u19, u20, u21, u22, u23, u24, u25, u26, u27, u28, u29, u30, u31, u32, u33, u34, u35, u36, u37, u38], []⟩ { dst := none, op := .go { callee := .value (.tmp 16), args := #[], argTypes := #[] }, type := 0, pos := "crew.go:69", after := #[{ on := 0, ground := .data }], guard := none } w) :=
    stepG_spawn (b := base 8) (ops := ops8g) (i := 1) (rest := []) (main := true) (k := [.code tail8b]) (cs := cs) rfl rfl (by decide) hr rfl
  have hl : listed Try.prog 8 ⟨#[.slice a0 n cap, .slice b0 m capb, .pointer (some ⟨N, 0, none⟩), u3, u4, .pointer (some ⟨N + 2, 0, none⟩), u6, u7, u8, u9, u10, u11, u12, u13, u14, u15, .func (.func 19) #[] #[.pointer (some ⟨N + 2, 0, none⟩), .pointer (some ⟨N, 0, none⟩)], u17, u18, u19, u20, u21, u22, u23, u24, u25, u26, u27, u28, u29, u30, u31, u32, u33, u34, u35, u36, u37, u38], []⟩ { dst := none, op := .go { callee := .value (.tmp 16), args := #[], argTypes := #[] }, type := 0, pos := "crew.go:69", after := #[{ on := 0, ground := .data }], guard := none } w = #[] := listed_nil he
  rw [hl] at hst
  have hchN := hF.r2.r1.re.chN
  have hS : SrcK (srcT N a0 n) N (N + 2) (N + 1) a0 n cap zs w := ⟨hF.r2.r1.bxv, hF.clv, hel, by simp [srcT], by simp [srcT], fun ad h0 hn => by simp only [srcT, List.mem_cons]; exact .inr (.inr (vblk_in ad h0 hn))⟩
  refine ⟨rfl, _, _, w, #[], hst, by simp, fun _ _ => rfl, fun _ _ => rfl, fun c hc => ?_, fun b hb => ?_, rfl, src_follows _ _ _ _ _ _ _ zs hn hz hnil w hS, next⟩
  · obtain rfl : c = N + 1 := by simpa using hc
    refine ⟨fun h => ?_, fun h => ?_, hF.r2.chn⟩
    · rcases List.mem_append.1 h with h | h
      · simp only [srcT, List.mem_cons] at h
        rcases h with h | h | h
        · omega
        · omega
        · obtain ⟨ad, h1, h2, h3⟩ := vblk_mem h
          have := (ha ad h1 h2).1; omega
      · have := hT _ h; omega
    · have := hchN _ h; omega
  · simp only [srcT, List.mem_cons] at hb
    intro h
    have h : b = N + 1 ∨ b ∈ ch := by simpa using h
    rcases hb with hb | hb | hb
    · rcases h with h | h
      · omega
      · have := hchN _ h; omega
    · rcases h with h | h
      · omega
      · have := hchN _ h; omega
    · obtain ⟨ad, h1, h2, h3⟩ := vblk_mem hb
      have := ha ad h1 h2
      rcases h with h | h
      · omega
      · exact this.2 (h3 ▸ h)

set_option maxRecDepth 100000 in
/-- From behind the first go statement to the first loop's head. -/
theorem seg8_one (ds : List Int) (T' ch' : List Nat) (Stop : Goroutine → World → Prop) (n₀ : Nat) (hcs : ∀ c ∈ ch', c ∈ ch ∨ c = N + 1 ∨ (N + 3 ≤ c ∧ c < N + 3 + 0)) (u3 u4 u6 u7 u8 u9 u10 u11 u12 u13 u14 u15 u17 u18 u19 u20 u21 u22 u23 u24 u25 u26 u27 u28 u29 u30 u31 u32 u33 u34 u35 u36 u37 u38 : Value) (w : World) (hF : RZ N W ch a0 n cap b0 m ds 0 w)
    (next : ∀ (u3 u4 u7 u8 u9 u10 u11 u12 u13 u14 u15 u16 u17 u21 u22 u23 u24 u25 u26 u27 u28 u29 u30 u31 u32 u33 u34 u35 u36 u37 u38 : Value) w', RZ N W ch a0 n cap b0 m ds 0 w' → Goes Try.prog true (RC ch') (DM T' ch') Stop n₀ (head8a N a0 n cap b0 m capb cs (N + 1) 0 u3 u4 u7 u8 u9 u10 u11 u12 u13 u14 u15 u16 u17 u21 u22 u23 u24 u25 u26 u27 u28 u29 u30 u31 u32 u33 u34 u35 u36 u37 u38) w') : Goes Try.prog true (RC ch') (DM T' ch') Stop (n₀ + 40) (go8 N a0 n cap b0 m capb cs u3 u4 u6 u7 u8 u9 u10 u11 u12 u13 u14 u15 u17 u18 u19 u20 u21 u22 u23 u24 u25 u26 u27 u28 u29 u30 u31 u32 u33 u34 u35 u36 u37 u38 []) w := by
  have hTl : ∀ b ∈ T', b < 0 ∨ 0 = 0 := fun _ _ => .inr rfl
  have hcl : ∀ b ∈ ch', b < 0 ∨ 0 = 0 := fun _ _ => .inr rfl
  simp only [head8a, go8, ops8g, L8a, rest8, tail8b, tail8a, body8, Try.f8, Option.getD_some] at next ⊢
  (refine Goes.step rfl (fun _ h₁ => ?_); walk_rw; refine ⟨DM_of_below (B := 0) hTl hcl (Below.refl _ _) (by simp), ?_⟩; replace hF := hF.rely hcs h₁; clear h₁)
  (refine Goes.step rfl (fun _ h₁ => ?_); walk_rw; refine ⟨DM_of_below (B := 0) hTl hcl (Below.refl _ _) (by simp), ?_⟩; replace hF := hF.rely hcs h₁; clear h₁)
  (refine Goes.step rfl (fun _ h₁ => ?_); walk_rw; refine ⟨DM_of_below (B := 0) hTl hcl (Below.refl _ _) (by simp), ?_⟩; replace hF := hF.rely hcs h₁; clear h₁)
  (refine Goes.step rfl (fun w₁ h₁ => ?_); replace hF := hF.rely hcs h₁; clear h₁; refine goes_oper_k rfl rfl (by decide) (fun K hK => ?_); have hx := hF.bxv; have hch := hF.clv; have hel := hF.adl; go_simp; refine hK _ _ ⟨DM_of_below (B := 0) hTl hcl (Below.refl _ _) (fun e he => ?_), ?_⟩; (focus (have hm := mem_listed he; (simp [go_sem, *] at hm); (try (subst hm; exact evM_read _ _ (by simp))))); (clear hK K hx hch hel); (try walk_nrm))
  (refine Goes.step rfl (fun w₁ h₁ => ?_); replace hF := hF.rely hcs h₁; clear h₁; refine goes_oper_k rfl rfl (by decide) (fun K hK => ?_); have hx := hF.bxv; have hch := hF.clv; have hel := hF.adl; go_simp; refine hK _ _ ⟨DM_of_below (B := 0) hTl hcl (Below.refl _ _) (fun e he => ?_), ?_⟩; (focus (have hm := mem_listed he; (simp [go_sem, *] at hm); (try (subst hm; exact evM_read _ _ (by simp))))); (clear hK K hx hch hel); (try walk_nrm))
  (refine Goes.step rfl (fun _ h₁ => ?_); walk_rw; refine ⟨DM_of_below (B := 0) hTl hcl (Below.refl _ _) (by simp), ?_⟩; replace hF := hF.rely hcs h₁; clear h₁)
  (refine Goes.step rfl (fun _ h₁ => ?_); walk_rw; refine ⟨DM_of_below (B := 0) hTl hcl (Below.refl _ _) (by simp), ?_⟩; replace hF := hF.rely hcs h₁; clear h₁)
  (refine Goes.step rfl (fun _ h₁ => ?_); walk_rw; refine ⟨DM_of_below (B := 0) hTl hcl (Below.refl _ _) (by simp), ?_⟩; replace hF := hF.rely hcs h₁; clear h₁)
  (refine Goes.step rfl (fun _ h₁ => ?_); walk_rw; refine ⟨DM_of_below (B := 0) hTl hcl (Below.refl _ _) (by simp), ?_⟩; replace hF := hF.rely hcs h₁; clear h₁)
  (refine Goes.step rfl (fun w₁ h₁ => ?_); replace hF := hF.rely hcs h₁; clear h₁; refine goes_oper_k rfl rfl (by decide) (fun K hK => ?_); have hx := hF.bxv; have hch := hF.clv; have hel := hF.adl; go_simp; refine hK _ _ ⟨DM_of_below (B := 0) hTl hcl (Below.refl _ _) (fun e he => ?_), ?_⟩; (focus (have hm := mem_listed he; (simp [go_sem, *] at hm); (try (subst hm; exact evM_read _ _ (by simp))))); (clear hK K hx hch hel); (try walk_nrm))
  (refine Goes.step rfl (fun w₁ h₁ => ?_); replace hF := hF.rely hcs h₁; clear h₁; refine goes_oper_k rfl rfl (by decide) (fun K hK => ?_); have hx := hF.bxv; have hch := hF.clv; have hel := hF.adl; go_simp; refine hK _ _ ⟨DM_of_below (B := 0) hTl hcl (Below.refl _ _) (fun e he => ?_), ?_⟩; (focus (have hm := mem_listed he; (simp [go_sem, *] at hm); (try (subst hm; exact evM_read _ _ (by simp))))); (clear hK K hx hch hel); (try walk_nrm))
  (refine Goes.step rfl (fun w₁ h₁ => ?_); replace hF := hF.rely hcs h₁; clear h₁; refine goes_oper_k rfl rfl (by decide) (fun K hK => ?_); have hx := hF.bxv; have hch := hF.clv; have hel := hF.adl; go_simp; refine hK _ _ ⟨DM_of_below (B := 0) hTl hcl (Below.refl _ _) (fun e he => ?_), ?_⟩; (focus (have hm := mem_listed he; (simp [go_sem, *] at hm); (try (subst hm; exact evM_read _ _ (by simp))))); (clear hK K hx hch hel); (try walk_nrm))
  (refine Goes.step rfl (fun _ h₁ => ?_); walk_rw; refine ⟨DM_of_below (B := 0) hTl hcl (Below.refl _ _) (by simp), ?_⟩; replace hF := hF.rely hcs h₁; clear h₁)
  (refine Goes.step rfl (fun _ h₁ => ?_); walk_rw; refine ⟨DM_of_below (B := 0) hTl hcl (Below.refl _ _) (by simp), ?_⟩; replace hF := hF.rely hcs h₁; clear h₁)
  (refine Goes.step rfl (fun _ h₁ => ?_); walk_rw; refine ⟨DM_of_below (B := 0) hTl hcl (Below.refl _ _) (by simp), ?_⟩; replace hF := hF.rely hcs h₁; clear h₁)
  refine Goes.mono (n := n₀) ?_ (by omega)
  exact next _ _ _ _ _ _ _ _ _ _ _ _ _ _ _ _ _ _ _ _ _ _ _ _ _ _ _ _ _ _ _ _ hF

/-- RELAY, from its entry: the row's whole script, and what is held at its return. -/
theorem relay_follows {Post : List Nat → List Nat → Goroutine → World → Prop} (T : List Nat) (hT : ∀ b ∈ T, b < N) (hch : ∀ c ∈ ch, c < N) (hm64 : m ≤ 64) (hN : W.heap.size = N)
    (zs ds : List Int) (hn : n * 8 ≤ 140737488355328) (hz : zs.length = n) (hd : ds.length = m) (hnila : 0 < n → ∃ ad, a0 = some ad) (hnilb : 0 < m → ∃ ad, b0 = some ad)
    (ha : ∀ ad, a0 = some ad → 0 < n → ad.block < N ∧ ad.block ∉ ch) (hb : ∀ ad, b0 = some ad → 0 < m → ad.block < N ∧ ad.block ∉ ch)
    (hela : ∀ j ad, j < n → a0 = some ad → W.cell? (ad.add j) = some (.int .i64 (zs[j]?.getD 0))) (helb : ∀ j ad, j < m → b0 = some ad → W.cell? (ad.add j) = some (.int .i64 (ds[j]?.getD 0)))
    (bC : Frame) (aC : Act) (opsC : Array Oper) (iC : Nat) (restC : List Nat) (kC : List Item) (csC : List Frame) (hcs0 : cs = bC.at aC (.inRegion opsC (iC :: restC) :: kC) :: csC)
    (hPost : ∀ out w, RK N W ch a0 n cap b0 m ds (N + 3 + m) out ((rowOut zs ds).map iv) w → Post (srcT N a0 n ++ T) (chL N ch m) (G (bC.at (aC.put ((opsC[iC]?).bind (·.dst)) out) (.inRegion opsC restC :: kC)) csC) w) :
    Goes Try.prog true (RC ch) (DM T ch) (stopM Try.prog zi Post (.fork (srcT N a0 n) [N + 1] (src (N + 1) (zs.map iv)) :: mains (N + 1) (zs.map iv) (lst N 0 ds)) T ch) (0 + 60) (entry8 a0 n cap b0 m capb cs) W := by
  refine seg8_go N W ch a0 n cap b0 m capb cs T _ 0 hm64 hT W ⟨rfl, rfl, rfl, hN, fun _ _ _ => rfl, hch⟩ fun u3 u4 u6 u7 u8 u9 u10 u11 u12 u13 u14 u15 u17 u18 u19 u20 u21 u22 u23 u24 u25 u26 u27 u28 u29 u30 u31 u32 u33 u34 u35 u36 u37 u38 w hF => Goes.stop fun w₁ h₁ => ?_
  have hF := hF.rely h₁
  have hel : ∀ (cc : Option Addr) (l : Nat) (es : List Int), (∀ ad, cc = some ad → 0 < l → ad.block < N ∧ ad.block ∉ ch) → (∀ j ad, j < l → cc = some ad → W.cell? (ad.add j) = some (.int .i64 (es[j]?.getD 0))) → ∀ j ad, j < l → cc = some ad → w₁.cell? (ad.add j) = some (.int .i64 (es[j]?.getD 0)) := by
    intro cc l es h1 h2 j ad hj hc
    obtain ⟨h3, h4⟩ := h1 ad hc (by omega)
    exact (World.cell?_of_block (by rw [addBlock]; exact hF.r2.r1.re.old _ h3 h4)).trans (h2 j ad hj hc)
  refine at8_go N W ch a0 n cap b0 m capb cs T hT zs (by omega) hz hnila ha _ u3 u4 u6 u7 u8 u9 u10 u11 u12 u13 u14 u15 u17 u18 u19 u20 u21 u22 u23 u24 u25 u26 u27 u28 u29 u30 u31 u32 u33 u34 u35 u36 u37 u38 w₁ hF (hel a0 n zs ha hela) ?_
  have hZ : RZ N W ch a0 n cap b0 m ds 0 w₁ := ⟨⟨hF.r2.r1.re.os, hF.r2.r1.re.tape, hF.r2.r1.re.output, by omega, by rw [hF.r2.r1.re.sz]; omega, hF.r2.r1.re.old, hF.r2.r1.bxv, hF.clv, hch, hb, hel b0 m ds hb helb, World.ownsRow_nil _ _ _ _⟩, hF.r2.r1.re.sz⟩
  have hTT : ∀ b ∈ srcT N a0 n ++ T, b < N + 3 := by
    intro b hb'
    rcases List.mem_append.1 hb' with h | h
    · simp only [srcT, List.mem_cons] at h
      rcases h with h | h | h
      · omega
      · omega
      · obtain ⟨ad, h1, h2, h3⟩ := vblk_mem h
        have := (ha ad h1 h2).1; omega
    · have := hT _ h; omega
  obtain ⟨n₁, h₂⟩ := loop8a N W ch a0 n cap b0 m capb ds cs (Post := Post) (srcT N a0 n ++ T) hTT hm64 hnilb bC aC opsC iC restC kC csC hcs0 (rowOut zs ds) hPost ds 0 zs rfl (by omega) rfl (by omega)
  exact followM_iff.2 ⟨n₁ + 40, seg8_one N W ch a0 n cap b0 m capb cs ds (srcT N a0 n ++ T) (chL N ch 0) _ n₁ (fun c hc => chL_mem hc) u3 u4 u6 u7 u8 u9 u10 u11 u12 u13 u14 u15 u17 u18 u19 u20 u21 u22 u23 u24 u25 u26 u27 u28 u29 u30 u31 u32 u33 u34 u35 u36 u37 u38 w₁ hZ fun u3 u4 u7 u8 u9 u10 u11 u12 u13 u14 u15 u16 u17 u21 u22 u23 u24 u25 u26 u27 u28 u29 u30 u31 u32 u33 u34 u35 u36 u37 u38 w' hF => h₂ u3 u4 u7 u8 u9 u10 u11 u12 u13 u14 u15 u16 u17 u21 u22 u23 u24 u25 u26 u27 u28 u29 u30 u31 u32 u33 u34 u35 u36 u37 u38 w' hF⟩
end
end Go.Proofs.Ytplndihadjfliaa.Net
/-
  CREW: the law's small functions, in company: SameInts, full.
-/
set_option linter.unusedSimpArgs false
set_option linter.unusedVariables false
set_option maxHeartbeats 2000000
namespace Go.Proofs.Ytplndihadjfliaa.Net
open Go Go.Conc Go.ConcN Go.Proofs Go.RowKit

/-- A list of numbers that may be read: nobody turns it. -/
structure IR (ch : List Nat) (a0 : Option Addr) (n : Nat) (xs : List Int) (w : World) : Prop where
  len : xs.length = n
  max : n ≤ 9223372036854775807
  ex : 0 < n → ∃ a, a0 = some a
  nch : ∀ a, a0 = some a → 0 < n → a.block ∉ ch
  cell : ∀ j a, j < n → a0 = some a → w.cell? (a.add j) = some (.int .i64 (xs[j]?.getD 0))

theorem IR.rely {ch : List Nat} {a0 : Option Addr} {n : Nat} {xs : List Int} {w w₁ : World} (h : IR ch a0 n xs w) (r : RC ch w w₁) : IR ch a0 n xs w₁ :=
  ⟨h.len, h.max, h.ex, h.nch, fun j a hj ha => (World.cell?_of_block (by rw [addBlock]; exact r.block _ (h.nch a ha (by omega)))).trans (h.cell j a hj ha)⟩

theorem drawM (T ch : List Nat) : LetsDraw (DM T ch) := fun w => ⟨fun _ _ => rfl, fun _ _ => rfl, by simp⟩
theorem ownDraw (ch : List Nat) (w : World) : RC ch w { w with drawn := w.drawn + 1 } := ⟨rfl, rfl, rfl, rfl, fun _ _ => rfl⟩

noncomputable def body12 : Code := Try.f12.body.getD .skip
noncomputable def L12 : Code := match body12 with | .seq _ (.seq _ (.seq (.seq _ (.block _ (.loop c))) _)) => c | _ => .skip
noncomputable def end12 : Code := match body12 with | .seq _ (.seq _ (.seq _ r)) => r | _ => .skip
noncomputable def B12 : Code := match L12 with | .seq _ (.seq (.block _ c) _) => c | _ => .skip
noncomputable def R12 : Code := match L12 with | .seq _ (.seq _ r) => r | _ => .skip
noncomputable def ops12 : Array Oper := match B12 with | .seq (.region _ ops _) _ => ops | _ => #[]
noncomputable def C12 : Code := match B12 with | .seq _ r => r | _ => .skip


section
variable (T ch : List Nat) (a0 b0 : Option Addr) (n cap0 cap1 : Nat) (xs : List Int) (b : Frame) (k : List Item) (cs : List Frame)

noncomputable def head12 (j : Nat) (u2 u3 u4 u6 u7 u8 u9 u10 u11 u12 u13 u14 u15 u16 u17 u18 u19 u20 u21 u22 u23 u24 u25 : Value) : Goroutine := G (b.at ⟨#[.slice a0 n cap0, .slice b0 n cap1, u2, u3, u4, .int .i64 j, u6, u7, u8, u9, u10, u11, u12, u13, u14, u15, u16, u17, u18, u19, u20, u21, u22, u23, u24, u25], []⟩ (.code L12 :: .inLoop L12 :: .inBlock 0 :: .code end12 :: k)) cs

set_option maxRecDepth 100000 in
/-- The region that compares. -/
theorem reg12 (w0 : World) (hA : IR ch a0 n xs w0) (hB : IR ch b0 n xs w0) (j : Nat) (hj : j < n) (ad bd : Addr) (ha : a0 = some ad) (hb : b0 = some bd) (u2 u3 u4 u6 u7 u8 u9 u10 u11 u12 u13 u14 u15 u16 u17 u18 u19 u20 u21 u22 u23 u24 u25 : Value) (w : World) (hF : RC ch w0 w) :
    (Code.region 6 ops12 true).wpC Try.prog true (RC ch) (DM T ch) 12 11 (fun e a' w' => e = .normal ∧ a' = ⟨#[.slice a0 n cap0, .slice b0 n cap1, u2, u3, u4, .int .i64 j, u6, u7, u8, u9, u10, u11, u12, u13, u14, u15, u16, .slice a0 n cap0, .int .i64 j, .pointer (some (ad.add j)), iv (xs[j]?.getD 0), .slice b0 n cap1, .int .i64 j, .pointer (some (bd.add j)), iv (xs[j]?.getD 0), .bool false], []⟩ ∧ RC ch w0 w') ⟨#[.slice a0 n cap0, .slice b0 n cap1, u2, u3, u4, .int .i64 j, u6, u7, u8, u9, u10, u11, u12, u13, u14, u15, u16, u17, u18, u19, u20, u21, u22, u23, u24, u25], []⟩ w := by
  subst ha hb
  simp only [ops12, B12, L12, body12, Try.f12, Option.getD_some]
  have hj' : (j : Int) < (n : Int) := by omega
  co_applyP wpC_region_held (termsM T ch) (drawM T ch) (S := RC ch w0) (by first | kernel_rfl | rfl)
  intro _ hR
  replace hF := (hF.trans hR).trans (ownDraw ch _)
  clear hR
  simp only [List.size_toArray, List.length_cons, List.length_nil, Nat.reduceAdd, Nat.zero_add]
  (co_applyP anyCH_take (termsM T ch) (fun _ _ h r => RC.trans h r) (fun _ _ _ h r => ⟨h.1, h.2.1, h.2.2.trans r⟩) (i := 0) rfl (by kernel_rfl) (by kernel_rfl) (by kernel_rfl) (.inl ⟨by rfl, fun _ hw => ⟨run_eq_of ?runx0, ?guarx0⟩⟩) hF ?restx0; (case runx0 => (intro K hK; skip; go_simp; exact hK)); (case guarx0 => (skip; co_quiet (termsM T ch))); (try walk_nrm))
  (co_applyP anyCH_take (termsM T ch) (fun _ _ h r => RC.trans h r) (fun _ _ _ h r => ⟨h.1, h.2.1, h.2.2.trans r⟩) (i := 1) rfl (by kernel_rfl) (by kernel_rfl) (by kernel_rfl) (.inl ⟨by rfl, fun _ hw => ⟨run_eq_of ?runx1, ?guarx1⟩⟩) hF ?restx1; (case runx1 => (intro K hK; skip; go_simp; exact hK)); (case guarx1 => (skip; co_quiet (termsM T ch))); (try walk_nrm))
  (co_applyP anyCH_take (termsM T ch) (fun _ _ h r => RC.trans h r) (fun _ _ _ h r => ⟨h.1, h.2.1, h.2.2.trans r⟩) (i := 2) rfl (by kernel_rfl) (by kernel_rfl) (by kernel_rfl) (.inl ⟨by rfl, fun _ hw => ⟨run_eq_of ?runx2, ?guarx2⟩⟩) hF ?restx2; (case runx2 => (intro K hK; skip; go_simp; exact hK)); (case guarx2 => (skip; co_still (termsM T ch))); (try walk_nrm))
  (co_applyP anyCH_take (termsM T ch) (fun _ _ h r => RC.trans h r) (fun _ _ _ h r => ⟨h.1, h.2.1, h.2.2.trans r⟩) (i := 3) rfl (by kernel_rfl) (by kernel_rfl) (by kernel_rfl) (.inl ⟨by rfl, fun _ hw => ⟨run_eq_of ?runx3, ?guarx3⟩⟩) hF ?restx3; (case runx3 => (intro K hK; have hc := (hA.rely hw).cell j ad hj rfl; go_simp; exact hK)); (case guarx3 => (have hc := (hA.rely hw).cell j ad hj rfl; refine ⟨fun _ _ => rfl, fun _ _ => rfl, ?_⟩; co_evs (exact evM_read _ _ (by simp)))); (try walk_nrm))
  (co_applyP anyCH_take (termsM T ch) (fun _ _ h r => RC.trans h r) (fun _ _ _ h r => ⟨h.1, h.2.1, h.2.2.trans r⟩) (i := 4) rfl (by kernel_rfl) (by kernel_rfl) (by kernel_rfl) (.inl ⟨by rfl, fun _ hw => ⟨run_eq_of ?runx4, ?guarx4⟩⟩) hF ?restx4; (case runx4 => (intro K hK; skip; go_simp; exact hK)); (case guarx4 => (skip; co_quiet (termsM T ch))); (try walk_nrm))
  (co_applyP anyCH_take (termsM T ch) (fun _ _ h r => RC.trans h r) (fun _ _ _ h r => ⟨h.1, h.2.1, h.2.2.trans r⟩) (i := 5) rfl (by kernel_rfl) (by kernel_rfl) (by kernel_rfl) (.inl ⟨by rfl, fun _ hw => ⟨run_eq_of ?runx5, ?guarx5⟩⟩) hF ?restx5; (case runx5 => (intro K hK; skip; go_simp; exact hK)); (case guarx5 => (skip; co_quiet (termsM T ch))); (try walk_nrm))
  (co_applyP anyCH_take (termsM T ch) (fun _ _ h r => RC.trans h r) (fun _ _ _ h r => ⟨h.1, h.2.1, h.2.2.trans r⟩) (i := 6) rfl (by kernel_rfl) (by kernel_rfl) (by kernel_rfl) (.inl ⟨by rfl, fun _ hw => ⟨run_eq_of ?runx6, ?guarx6⟩⟩) hF ?restx6; (case runx6 => (intro K hK; skip; go_simp; exact hK)); (case guarx6 => (skip; co_still (termsM T ch))); (try walk_nrm))
  (co_applyP anyCH_take (termsM T ch) (fun _ _ h r => RC.trans h r) (fun _ _ _ h r => ⟨h.1, h.2.1, h.2.2.trans r⟩) (i := 7) rfl (by kernel_rfl) (by kernel_rfl) (by kernel_rfl) (.inl ⟨by rfl, fun _ hw => ⟨run_eq_of ?runx7, ?guarx7⟩⟩) hF ?restx7; (case runx7 => (intro K hK; have hc := (hB.rely hw).cell j bd hj rfl; go_simp; exact hK)); (case guarx7 => (have hc := (hB.rely hw).cell j bd hj rfl; refine ⟨fun _ _ => rfl, fun _ _ => rfl, ?_⟩; co_evs (exact evM_read _ _ (by simp)))); (try walk_nrm))
  (co_applyP anyCH_take (termsM T ch) (fun _ _ h r => RC.trans h r) (fun _ _ _ h r => ⟨h.1, h.2.1, h.2.2.trans r⟩) (i := 8) rfl (by kernel_rfl) (by kernel_rfl) (by kernel_rfl) (.inl ⟨by rfl, fun _ hw => ⟨run_eq_of ?runx8, ?guarx8⟩⟩) hF ?restx8; (case runx8 => (intro K hK; skip; go_simp; exact hK)); (case guarx8 => (skip; co_still (termsM T ch))); (try walk_nrm))
  exact anyCH_done (by kernel_rfl) ⟨rfl, rfl, hF⟩ _

set_option maxRecDepth 100000 in
/-- The loop, j of the numbers compared. -/
theorem loop12 (w0 : World) (hA : IR ch a0 n xs w0) (hB : IR ch b0 n xs w0) (Stop : Goroutine → World → Prop) (m : Nat) (hb : b.fn = 12) (hk : b.kind ≠ .early)
    (hret : ∀ (t : Array Value) todo w', t.getD 4 undef = .bool true → RC ch w0 w' → Goes Try.prog true (RC ch) (DM T ch) Stop m (G { b.at ⟨t, []⟩ todo with mode := .returning } cs) w') :
    ∀ (r j : Nat), j + r = n → ∀ (u2 u3 u4 u6 u7 u8 u9 u10 u11 u12 u13 u14 u15 u16 u17 u18 u19 u20 u21 u22 u23 u24 u25 : Value) (w : World), RC ch w0 w → Goes Try.prog true (RC ch) (DM T ch) Stop (m + 60 * (r + 1)) (head12 a0 b0 n cap0 cap1 b k cs j u2 u3 u4 u6 u7 u8 u9 u10 u11 u12 u13 u14 u15 u16 u17 u18 u19 u20 u21 u22 u23 u24 u25) w := by
  have hTl : ∀ b ∈ T, b < 0 ∨ 0 = 0 := fun _ _ => .inr rfl
  have hcl : ∀ b ∈ ch, b < 0 ∨ 0 = 0 := fun _ _ => .inr rfl
  intro r
  induction r with
  | zero =>
    intro j hj u2 u3 u4 u6 u7 u8 u9 u10 u11 u12 u13 u14 u15 u16 u17 u18 u19 u20 u21 u22 u23 u24 u25 w hF
    obtain rfl : j = n := by omega
    refine Goes.mono (n := m + 60) ?_ (by omega)
    simp only [head12, L12, end12, body12, Try.f12, Option.getD_some]
    repeat (first | (refine Goes.step rfl (fun _ h₁ => ?_); walk_rw; refine ⟨DM_of_below (B := 0) hTl hcl (Below.refl _ _) (by simp), ?_⟩; replace hF := (RC.trans hF) h₁; clear h₁) | (refine Goes.step rfl (fun w₁ h₁ => ?_); replace hF := (RC.trans hF) h₁; clear h₁; refine goes_oper_k rfl rfl hk (fun K hK => ?_); skip; go_simp; refine hK _ _ ⟨DM_of_below (B := 0) hTl hcl (Below.refl _ _) (fun e he => ?_), ?_⟩; (focus (have hm := mem_listed he; (simp [go_sem, *] at hm); (try (subst hm; exact evM_read _ _ (by simp))))); (clear hK K); (try walk_nrm)))
    (refine Goes.step rfl (fun _ h₁ => ?_); rw [stepG_cond (t := false) rfl]; simp only [goes_go, if_true, if_false, Bool.false_eq_true, ↓reduceIte]; refine ⟨DM_of_below (B := 0) hTl hcl (Below.refl _ _) (by simp), ?_⟩; replace hF := (RC.trans hF) h₁; clear h₁)
    (refine Goes.step rfl (fun _ h₁ => ?_); apply goes_exit; (focus rfl); refine ⟨DM_of_below (B := 0) hTl hcl (Below.refl _ _) (by simp), ?_⟩; replace hF := (RC.trans hF) h₁; clear h₁)
    repeat (first | (refine Goes.step rfl (fun _ h₁ => ?_); walk_rw; refine ⟨DM_of_below (B := 0) hTl hcl (Below.refl _ _) (by simp), ?_⟩; replace hF := (RC.trans hF) h₁; clear h₁) | (refine Goes.step rfl (fun w₁ h₁ => ?_); replace hF := (RC.trans hF) h₁; clear h₁; refine goes_oper_k rfl rfl hk (fun K hK => ?_); skip; go_simp; refine hK _ _ ⟨DM_of_below (B := 0) hTl hcl (Below.refl _ _) (fun e he => ?_), ?_⟩; (focus (have hm := mem_listed he; (simp [go_sem, *] at hm); (try (subst hm; exact evM_read _ _ (by simp))))); (clear hK K); (try walk_nrm)))
    refine Goes.mono (n := m) ?_ (by omega)
    exact hret _ _ _ rfl hF
  | succ r ih =>
    intro j hj u2 u3 u4 u6 u7 u8 u9 u10 u11 u12 u13 u14 u15 u16 u17 u18 u19 u20 u21 u22 u23 u24 u25 w hF
    refine Goes.mono (n := (m + 60 * (r + 1)) + 60) ?_ (by omega)
    obtain ⟨ad, rfl⟩ := hA.ex (by omega)
    obtain ⟨bd, rfl⟩ := hB.ex (by omega)
    have hmax := hA.max
    have hwr : IntKind.i64.wrap ((j : Int) + 1) = ((j + 1 : Nat) : Int) := by rw [IntKind.wrap_i64]; omega
    have hjn : j < n := by omega
    have hjn' : (j : Int) < (n : Int) := by omega
    have hreg := reg12 T ch (some ad) (some bd) n cap0 cap1 xs w0 hA hB j hjn ad bd rfl rfl
    simp only [head12, L12, end12, body12, Try.f12, Option.getD_some, ops12, B12] at ih hreg ⊢
    repeat (first | (refine Goes.step rfl (fun _ h₁ => ?_); walk_rw; refine ⟨DM_of_below (B := 0) hTl hcl (Below.refl _ _) (by simp), ?_⟩; replace hF := (RC.trans hF) h₁; clear h₁) | (refine Goes.step rfl (fun w₁ h₁ => ?_); replace hF := (RC.trans hF) h₁; clear h₁; refine goes_oper_k rfl rfl hk (fun K hK => ?_); skip; go_simp; refine hK _ _ ⟨DM_of_below (B := 0) hTl hcl (Below.refl _ _) (fun e he => ?_), ?_⟩; (focus (have hm := mem_listed he; (simp [go_sem, *] at hm); (try (subst hm; exact evM_read _ _ (by simp))))); (clear hK K); (try walk_nrm)))
    (refine Goes.step rfl (fun _ h₁ => ?_); rw [stepG_cond (t := true) rfl]; simp only [goes_go, if_true, if_false, Bool.false_eq_true, ↓reduceIte]; refine ⟨DM_of_below (B := 0) hTl hcl (Below.refl _ _) (by simp), ?_⟩; replace hF := (RC.trans hF) h₁; clear h₁)
    repeat (first | (refine Goes.step rfl (fun _ h₁ => ?_); walk_rw; refine ⟨DM_of_below (B := 0) hTl hcl (Below.refl _ _) (by simp), ?_⟩; replace hF := (RC.trans hF) h₁; clear h₁) | (refine Goes.step rfl (fun w₁ h₁ => ?_); replace hF := (RC.trans hF) h₁; clear h₁; refine goes_oper_k rfl rfl hk (fun K hK => ?_); skip; go_simp; refine hK _ _ ⟨DM_of_below (B := 0) hTl hcl (Below.refl _ _) (fun e he => ?_), ?_⟩; (focus (have hm := mem_listed he; (simp [go_sem, *] at hm); (try (subst hm; exact evM_read _ _ (by simp))))); (clear hK K); (try walk_nrm)))
    refine Goes.mono (n := (m + 60 * (r + 1) + 30) + 11) ?_ (by omega)
    refine wpC_goes (hreg _ _ _ _ _ _ _ _ _ _ _ _ _ _ _ _ _ _ _ _ _ _ _ _ hF) hb hk fun e a' w' q => ?_
    obtain ⟨rfl, rfl, hF⟩ := q
    clear hreg
    (refine Goes.step rfl (fun _ h₁ => ?_); rw [stepG_cond (t := false) rfl]; simp only [goes_go, if_true, if_false, Bool.false_eq_true, ↓reduceIte]; refine ⟨DM_of_below (B := 0) hTl hcl (Below.refl _ _) (by simp), ?_⟩; replace hF := (RC.trans hF) h₁; clear h₁)
    (refine Goes.step rfl (fun _ h₁ => ?_); walk_rw; refine ⟨DM_of_below (B := 0) hTl hcl (Below.refl _ _) (by simp), ?_⟩; replace hF := (RC.trans hF) h₁; clear h₁)
    (refine Goes.step rfl (fun _ h₁ => ?_); walk_rw; refine ⟨DM_of_below (B := 0) hTl hcl (Below.refl _ _) (by simp), ?_⟩; replace hF := (RC.trans hF) h₁; clear h₁)
    (refine Goes.step rfl (fun _ h₁ => ?_); walk_rw; refine ⟨DM_of_below (B := 0) hTl hcl (Below.refl _ _) (by simp), ?_⟩; replace hF := (RC.trans hF) h₁; clear h₁)
    (refine Goes.step rfl (fun w₁ h₁ => ?_); replace hF := (RC.trans hF) h₁; clear h₁; refine goes_oper_k rfl rfl hk (fun K hK => ?_); skip; go_simp; refine hK _ _ ⟨DM_of_below (B := 0) hTl hcl (Below.refl _ _) (fun e he => ?_), ?_⟩; (focus (have hm := mem_listed he; (simp [go_sem, *] at hm); (try (subst hm; exact evM_read _ _ (by simp))))); (clear hK K); (try walk_nrm))
    (refine Goes.step rfl (fun w₁ h₁ => ?_); replace hF := (RC.trans hF) h₁; clear h₁; refine goes_oper_k rfl rfl hk (fun K hK => ?_); skip; go_simp; refine hK _ _ ⟨DM_of_below (B := 0) hTl hcl (Below.refl _ _) (fun e he => ?_), ?_⟩; (focus (have hm := mem_listed he; (simp [go_sem, *] at hm); (try (subst hm; exact evM_read _ _ (by simp))))); (clear hK K); (try walk_nrm))
    (refine Goes.step rfl (fun w₁ h₁ => ?_); replace hF := (RC.trans hF) h₁; clear h₁; refine goes_oper_k rfl rfl hk (fun K hK => ?_); skip; go_simp; refine hK _ _ ⟨DM_of_below (B := 0) hTl hcl (Below.refl _ _) (fun e he => ?_), ?_⟩; (focus (have hm := mem_listed he; (simp [go_sem, *] at hm); (try (subst hm; exact evM_read _ _ (by simp))))); (clear hK K); (try walk_nrm))
    (refine Goes.step rfl (fun _ h₁ => ?_); walk_rw; refine ⟨DM_of_below (B := 0) hTl hcl (Below.refl _ _) (by simp), ?_⟩; replace hF := (RC.trans hF) h₁; clear h₁)
    (refine Goes.step rfl (fun _ h₁ => ?_); walk_rw; refine ⟨DM_of_below (B := 0) hTl hcl (Below.refl _ _) (by simp), ?_⟩; replace hF := (RC.trans hF) h₁; clear h₁)
    refine Goes.mono (n := m + 60 * (r + 1)) ?_ (by omega)
    exact ih (j + 1) (by omega) _ _ _ _ _ _ _ _ _ _ _ _ _ _ _ _ _ _ _ _ _ _ _ _ hF

set_option maxRecDepth 100000 in
/-- TWO LISTS ARE ALIKE: true. -/
theorem same_c : ∃ q, ∀ (a0 b0 : Option Addr) (cap0 cap1 : Nat) (xs : List Int) (w : World), IR ch a0 n xs w → IR ch b0 n xs w →
    CallsC Try.prog true (RC ch) (DM T ch) 12 #[.slice a0 n cap0, .slice b0 n cap1] q w fun v w' => v = .bool true ∧ RC ch w w' := by
  refine ⟨60 * (n + 1) + 40, fun a0 b0 cap0 cap1 xs w0 hA hB => callsC_of_wpC Try.func12 (by simp [Try.f12]) (show Try.f12.body = some body12 by simp [Try.f12, body12]) ?_⟩
  have hTl : ∀ b ∈ T, b < 0 ∨ 0 = 0 := fun _ _ => .inr rfl
  have hcl : ∀ b ∈ ch, b < 0 ∨ 0 = 0 := fun _ _ => .inr rfl
  have hF : RC ch w0 w0 := RC.refl _ _
  have e : (#[.slice a0 n cap0, .slice b0 n cap1] : Array Value) ++ Array.replicate (Try.f12.ntmps - (#[.slice a0 n cap0, .slice b0 n cap1] : Array Value).size) undef = #[.slice a0 n cap0, .slice b0 n cap1, undef, undef, undef, undef, undef, undef, undef, undef, undef, undef, undef, undef, undef, undef, undef, undef, undef, undef, undef, undef, undef, undef, undef, undef] := by simp only [Try.f12]; walk_nrm
  rw [e]
  intro b k cs Stop m hb hk hc
  have h1 := loop12 T ch a0 b0 n cap0 cap1 xs b k cs w0 hA hB Stop m hb hk (fun t todo w' ht hr => hc .ret ⟨t, []⟩ w' ⟨rfl, _, resultsC_tmp (by simp only [Try.f12]) t, ht, hr⟩ todo) n 0 (by omega)
  refine Goes.mono (n := (m + 60 * (n + 1)) + 40) ?_ (by omega)
  simp only [head12, L12, end12, body12, Try.f12, Option.getD_some] at h1 ⊢
  repeat (first | (refine Goes.step rfl (fun _ h₁ => ?_); walk_rw; refine ⟨DM_of_below (B := 0) hTl hcl (Below.refl _ _) (by simp), ?_⟩; replace hF := (RC.trans hF) h₁; clear h₁) | (refine Goes.step rfl (fun w₁ h₁ => ?_); replace hF := (RC.trans hF) h₁; clear h₁; refine goes_oper_k rfl rfl hk (fun K hK => ?_); skip; go_simp; refine hK _ _ ⟨DM_of_below (B := 0) hTl hcl (Below.refl _ _) (fun e he => ?_), ?_⟩; (focus (have hm := mem_listed he; (simp [go_sem, *] at hm); (try (subst hm; exact evM_read _ _ (by simp))))); (clear hK K); (try walk_nrm)))
  (refine Goes.step rfl (fun _ h₁ => ?_); rw [stepG_cond (t := false) rfl]; simp only [goes_go, if_true, if_false, Bool.false_eq_true, ↓reduceIte]; refine ⟨DM_of_below (B := 0) hTl hcl (Below.refl _ _) (by simp), ?_⟩; replace hF := (RC.trans hF) h₁; clear h₁)
  (refine Goes.step rfl (fun _ h₁ => ?_); walk_rw; refine ⟨DM_of_below (B := 0) hTl hcl (Below.refl _ _) (by simp), ?_⟩; replace hF := (RC.trans hF) h₁; clear h₁)
  (refine Goes.step rfl (fun _ h₁ => ?_); walk_rw; refine ⟨DM_of_below (B := 0) hTl hcl (Below.refl _ _) (by simp), ?_⟩; replace hF := (RC.trans hF) h₁; clear h₁)
  (refine Goes.step rfl (fun _ h₁ => ?_); walk_rw; refine ⟨DM_of_below (B := 0) hTl hcl (Below.refl _ _) (by simp), ?_⟩; replace hF := (RC.trans hF) h₁; clear h₁)
  (refine Goes.step rfl (fun _ h₁ => ?_); walk_rw; refine ⟨DM_of_below (B := 0) hTl hcl (Below.refl _ _) (by simp), ?_⟩; replace hF := (RC.trans hF) h₁; clear h₁)
  (refine Goes.step rfl (fun w₁ h₁ => ?_); replace hF := (RC.trans hF) h₁; clear h₁; refine goes_oper_k rfl rfl hk (fun K hK => ?_); skip; go_simp; refine hK _ _ ⟨DM_of_below (B := 0) hTl hcl (Below.refl _ _) (fun e he => ?_), ?_⟩; (focus (have hm := mem_listed he; (simp [go_sem, *] at hm); (try (subst hm; exact evM_read _ _ (by simp))))); (clear hK K); (try walk_nrm))
  (refine Goes.step rfl (fun _ h₁ => ?_); walk_rw; refine ⟨DM_of_below (B := 0) hTl hcl (Below.refl _ _) (by simp), ?_⟩; replace hF := (RC.trans hF) h₁; clear h₁)
  (refine Goes.step rfl (fun _ h₁ => ?_); walk_rw; refine ⟨DM_of_below (B := 0) hTl hcl (Below.refl _ _) (by simp), ?_⟩; replace hF := (RC.trans hF) h₁; clear h₁)
  (refine Goes.step rfl (fun _ h₁ => ?_); walk_rw; refine ⟨DM_of_below (B := 0) hTl hcl (Below.refl _ _) (by simp), ?_⟩; replace hF := (RC.trans hF) h₁; clear h₁)
  refine Goes.mono (n := m + 60 * (n + 1)) ?_ (by omega)
  exact h1 _ _ _ _ _ _ _ _ _ _ _ _ _ _ _ _ _ _ _ _ _ _ _ _ hF
end
end Go.Proofs.Ytplndihadjfliaa.Net
/-
  CREW: the law's small functions, in company: full.
-/
set_option linter.unusedSimpArgs false
set_option linter.unusedVariables false
set_option maxHeartbeats 2000000
namespace Go.Proofs.Ytplndihadjfliaa.Net
open Go Go.Conc Go.ConcN Go.Proofs Go.RowKit

noncomputable def body22 : Code := Try.f22.body.getD .skip
noncomputable def L22 : Code := match body22 with | .seq _ (.seq (.seq _ (.block _ (.loop c))) _) => c | _ => .skip
noncomputable def end22 : Code := match body22 with | .seq _ (.seq _ r) => r | _ => .skip


section
variable (T ch : List Nat) (a0 : Option Addr) (n cap0 : Nat) (mk : Int) (xs : List Int) (b : Frame) (k : List Item) (cs : List Frame)

noncomputable def head22 (j : Nat) (u2 u3 u4 u6 u7 u8 u9 u10 u11 u12 u13 u14 u15 u16 u17 : Value) : Goroutine := G (b.at ⟨#[.slice a0 n cap0, iv mk, u2, u3, u4, .int .i64 j, u6, u7, u8, u9, u10, u11, u12, u13, u14, u15, u16, u17], []⟩ (.code L22 :: .inLoop L22 :: .inBlock 0 :: .code end22 :: k)) cs

set_option maxRecDepth 100000 in
theorem loop22 (w0 : World) (hA : IR ch a0 n xs w0) (hx : ∀ j, j < n → xs[j]?.getD 0 = mk) (Stop : Goroutine → World → Prop) (m : Nat) (hb : b.fn = 22) (hk : b.kind ≠ .early)
    (hret : ∀ (t : Array Value) todo w', t.getD 4 undef = .bool true → RC ch w0 w' → Goes Try.prog true (RC ch) (DM T ch) Stop m (G { b.at ⟨t, []⟩ todo with mode := .returning } cs) w') :
    ∀ (r j : Nat), j + r = n → ∀ (u2 u3 u4 u6 u7 u8 u9 u10 u11 u12 u13 u14 u15 u16 u17 : Value) (w : World), RC ch w0 w → Goes Try.prog true (RC ch) (DM T ch) Stop (m + 60 * (r + 1)) (head22 a0 n cap0 mk b k cs j u2 u3 u4 u6 u7 u8 u9 u10 u11 u12 u13 u14 u15 u16 u17) w := by
  have hTl : ∀ b ∈ T, b < 0 ∨ 0 = 0 := fun _ _ => .inr rfl
  have hcl : ∀ b ∈ ch, b < 0 ∨ 0 = 0 := fun _ _ => .inr rfl
  intro r
  induction r with
  | zero =>
    intro j hj u2 u3 u4 u6 u7 u8 u9 u10 u11 u12 u13 u14 u15 u16 u17 w hF
    obtain rfl : j = n := by omega
    refine Goes.mono (n := m + 60) ?_ (by omega)
    simp only [head22, L22, end22, body22, Try.f22, Option.getD_some]
    repeat (first | (refine Goes.step rfl (fun _ h₁ => ?_); walk_rw; refine ⟨DM_of_below (B := 0) hTl hcl (Below.refl _ _) (by simp), ?_⟩; replace hF := (RC.trans hF) h₁; clear h₁) | (refine Goes.step rfl (fun w₁ h₁ => ?_); replace hF := (RC.trans hF) h₁; clear h₁; refine goes_oper_k rfl rfl hk (fun K hK => ?_); skip; go_simp; refine hK _ _ ⟨DM_of_below (B := 0) hTl hcl (Below.refl _ _) (fun e he => ?_), ?_⟩; (focus (have hm := mem_listed he; (simp [go_sem, *] at hm); (try (subst hm; exact evM_read _ _ (by simp))))); (clear hK K); (try walk_nrm)))
    (refine Goes.step rfl (fun _ h₁ => ?_); rw [stepG_cond (t := false) rfl]; simp only [goes_go, if_true, if_false, Bool.false_eq_true, ↓reduceIte]; refine ⟨DM_of_below (B := 0) hTl hcl (Below.refl _ _) (by simp), ?_⟩; replace hF := (RC.trans hF) h₁; clear h₁)
    (refine Goes.step rfl (fun _ h₁ => ?_); apply goes_exit; (focus rfl); refine ⟨DM_of_below (B := 0) hTl hcl (Below.refl _ _) (by simp), ?_⟩; replace hF := (RC.trans hF) h₁; clear h₁)
    repeat (first | (refine Goes.step rfl (fun _ h₁ => ?_); walk_rw; refine ⟨DM_of_below (B := 0) hTl hcl (Below.refl _ _) (by simp), ?_⟩; replace hF := (RC.trans hF) h₁; clear h₁) | (refine Goes.step rfl (fun w₁ h₁ => ?_); replace hF := (RC.trans hF) h₁; clear h₁; refine goes_oper_k rfl rfl hk (fun K hK => ?_); skip; go_simp; refine hK _ _ ⟨DM_of_below (B := 0) hTl hcl (Below.refl _ _) (fun e he => ?_), ?_⟩; (focus (have hm := mem_listed he; (simp [go_sem, *] at hm); (try (subst hm; exact evM_read _ _ (by simp))))); (clear hK K); (try walk_nrm)))
    refine Goes.mono (n := m) ?_ (by omega)
    exact hret _ _ _ rfl hF
  | succ r ih =>
    intro j hj u2 u3 u4 u6 u7 u8 u9 u10 u11 u12 u13 u14 u15 u16 u17 w hF
    refine Goes.mono (n := (m + 60 * (r + 1)) + 60) ?_ (by omega)
    obtain ⟨ad, rfl⟩ := hA.ex (by omega)
    have hmax := hA.max
    have hwr : IntKind.i64.wrap ((j : Int) + 1) = ((j + 1 : Nat) : Int) := by rw [IntKind.wrap_i64]; omega
    have hjn : j < n := by omega
    have hjn' : (j : Int) < (n : Int) := by omega
    have hxj := hx j hjn
    simp only [head22, L22, end22, body22, Try.f22, Option.getD_some] at ih ⊢
    repeat (first | (refine Goes.step rfl (fun _ h₁ => ?_); walk_rw; refine ⟨DM_of_below (B := 0) hTl hcl (Below.refl _ _) (by simp), ?_⟩; replace hF := (RC.trans hF) h₁; clear h₁) | (refine Goes.step rfl (fun w₁ h₁ => ?_); replace hF := (RC.trans hF) h₁; clear h₁; refine goes_oper_k rfl rfl hk (fun K hK => ?_); skip; go_simp; refine hK _ _ ⟨DM_of_below (B := 0) hTl hcl (Below.refl _ _) (fun e he => ?_), ?_⟩; (focus (have hm := mem_listed he; (simp [go_sem, *] at hm); (try (subst hm; exact evM_read _ _ (by simp))))); (clear hK K); (try walk_nrm)))
    (refine Goes.step rfl (fun _ h₁ => ?_); rw [stepG_cond (t := true) rfl]; simp only [goes_go, if_true, if_false, Bool.false_eq_true, ↓reduceIte]; refine ⟨DM_of_below (B := 0) hTl hcl (Below.refl _ _) (by simp), ?_⟩; replace hF := (RC.trans hF) h₁; clear h₁)
    (refine Goes.step rfl (fun _ h₁ => ?_); walk_rw; refine ⟨DM_of_below (B := 0) hTl hcl (Below.refl _ _) (by simp), ?_⟩; replace hF := (RC.trans hF) h₁; clear h₁)
    (refine Goes.step rfl (fun _ h₁ => ?_); walk_rw; refine ⟨DM_of_below (B := 0) hTl hcl (Below.refl _ _) (by simp), ?_⟩; replace hF := (RC.trans hF) h₁; clear h₁)
    (refine Goes.step rfl (fun _ h₁ => ?_); walk_rw; refine ⟨DM_of_below (B := 0) hTl hcl (Below.refl _ _) (by simp), ?_⟩; replace hF := (RC.trans hF) h₁; clear h₁)
    repeat (first | (refine Goes.step rfl (fun _ h₁ => ?_); walk_rw; refine ⟨DM_of_below (B := 0) hTl hcl (Below.refl _ _) (by simp), ?_⟩; replace hF := (RC.trans hF) h₁; clear h₁) | (refine Goes.step rfl (fun w₁ h₁ => ?_); replace hF := (RC.trans hF) h₁; clear h₁; refine goes_oper_k rfl rfl hk (fun K hK => ?_); have hc := (hA.rely hF).cell j ad hjn rfl; go_simp; refine hK _ _ ⟨DM_of_below (B := 0) hTl hcl (Below.refl _ _) (fun e he => ?_), ?_⟩; (focus (have hm := mem_listed he; (simp [go_sem, *] at hm); (try (subst hm; exact evM_read _ _ (by simp))))); (clear hK K); (try walk_nrm)))
    (refine Goes.step rfl (fun _ h₁ => ?_); rw [stepG_cond (t := false) rfl]; simp only [goes_go, if_true, if_false, Bool.false_eq_true, ↓reduceIte]; refine ⟨DM_of_below (B := 0) hTl hcl (Below.refl _ _) (by simp), ?_⟩; replace hF := (RC.trans hF) h₁; clear h₁)
    (refine Goes.step rfl (fun _ h₁ => ?_); walk_rw; refine ⟨DM_of_below (B := 0) hTl hcl (Below.refl _ _) (by simp), ?_⟩; replace hF := (RC.trans hF) h₁; clear h₁)
    (refine Goes.step rfl (fun _ h₁ => ?_); walk_rw; refine ⟨DM_of_below (B := 0) hTl hcl (Below.refl _ _) (by simp), ?_⟩; replace hF := (RC.trans hF) h₁; clear h₁)
    (refine Goes.step rfl (fun _ h₁ => ?_); walk_rw; refine ⟨DM_of_below (B := 0) hTl hcl (Below.refl _ _) (by simp), ?_⟩; replace hF := (RC.trans hF) h₁; clear h₁)
    (refine Goes.step rfl (fun w₁ h₁ => ?_); replace hF := (RC.trans hF) h₁; clear h₁; refine goes_oper_k rfl rfl hk (fun K hK => ?_); skip; go_simp; refine hK _ _ ⟨DM_of_below (B := 0) hTl hcl (Below.refl _ _) (fun e he => ?_), ?_⟩; (focus (have hm := mem_listed he; (simp [go_sem, *] at hm); (try (subst hm; exact evM_read _ _ (by simp))))); (clear hK K); (try walk_nrm))
    (refine Goes.step rfl (fun w₁ h₁ => ?_); replace hF := (RC.trans hF) h₁; clear h₁; refine goes_oper_k rfl rfl hk (fun K hK => ?_); skip; go_simp; refine hK _ _ ⟨DM_of_below (B := 0) hTl hcl (Below.refl _ _) (fun e he => ?_), ?_⟩; (focus (have hm := mem_listed he; (simp [go_sem, *] at hm); (try (subst hm; exact evM_read _ _ (by simp))))); (clear hK K); (try walk_nrm))
    (refine Goes.step rfl (fun w₁ h₁ => ?_); replace hF := (RC.trans hF) h₁; clear h₁; refine goes_oper_k rfl rfl hk (fun K hK => ?_); skip; go_simp; refine hK _ _ ⟨DM_of_below (B := 0) hTl hcl (Below.refl _ _) (fun e he => ?_), ?_⟩; (focus (have hm := mem_listed he; (simp [go_sem, *] at hm); (try (subst hm; exact evM_read _ _ (by simp))))); (clear hK K); (try walk_nrm))
    (refine Goes.step rfl (fun _ h₁ => ?_); walk_rw; refine ⟨DM_of_below (B := 0) hTl hcl (Below.refl _ _) (by simp), ?_⟩; replace hF := (RC.trans hF) h₁; clear h₁)
    (refine Goes.step rfl (fun _ h₁ => ?_); walk_rw; refine ⟨DM_of_below (B := 0) hTl hcl (Below.refl _ _) (by simp), ?_⟩; replace hF := (RC.trans hF) h₁; clear h₁)
    refine Goes.mono (n := m + 60 * (r + 1)) ?_ (by omega)
    exact ih (j + 1) (by omega) _ _ _ _ _ _ _ _ _ _ _ _ _ _ _ _ hF

set_option maxRecDepth 100000 in
/-- A LIST OF MARKS ALONE: true. -/
theorem full_c : ∃ q, ∀ (a0 : Option Addr) (cap0 : Nat) (mk : Int) (xs : List Int) (w : World), IR ch a0 n xs w → (∀ j, j < n → xs[j]?.getD 0 = mk) →
    CallsC Try.prog true (RC ch) (DM T ch) 22 #[.slice a0 n cap0, iv mk] q w fun v w' => v = .bool true ∧ RC ch w w' := by
  refine ⟨60 * (n + 1) + 40, fun a0 cap0 mk xs w0 hA hx => callsC_of_wpC Try.func22 (by simp [Try.f22]) (show Try.f22.body = some body22 by simp [Try.f22, body22]) ?_⟩
  have hTl : ∀ b ∈ T, b < 0 ∨ 0 = 0 := fun _ _ => .inr rfl
  have hcl : ∀ b ∈ ch, b < 0 ∨ 0 = 0 := fun _ _ => .inr rfl
  have hF : RC ch w0 w0 := RC.refl _ _
  have e : (#[.slice a0 n cap0, iv mk] : Array Value) ++ Array.replicate (Try.f22.ntmps - (#[.slice a0 n cap0, iv mk] : Array Value).size) undef = #[.slice a0 n cap0, iv mk, undef, undef, undef, undef, undef, undef, undef, undef, undef, undef, undef, undef, undef, undef, undef, undef] := by simp only [Try.f22]; walk_nrm
  rw [e]
  intro b k cs Stop m hb hk hc
  have h1 := loop22 T ch a0 n cap0 mk xs b k cs w0 hA hx Stop m hb hk (fun t todo w' ht hr => hc .ret ⟨t, []⟩ w' ⟨rfl, _, resultsC_tmp (by simp only [Try.f22]) t, ht, hr⟩ todo) n 0 (by omega)
  refine Goes.mono (n := (m + 60 * (n + 1)) + 40) ?_ (by omega)
  simp only [head22, L22, end22, body22, Try.f22, Option.getD_some] at h1 ⊢
  (refine Goes.step rfl (fun _ h₁ => ?_); walk_rw; refine ⟨DM_of_below (B := 0) hTl hcl (Below.refl _ _) (by simp), ?_⟩; replace hF := (RC.trans hF) h₁; clear h₁)
  (refine Goes.step rfl (fun _ h₁ => ?_); walk_rw; refine ⟨DM_of_below (B := 0) hTl hcl (Below.refl _ _) (by simp), ?_⟩; replace hF := (RC.trans hF) h₁; clear h₁)
  (refine Goes.step rfl (fun w₁ h₁ => ?_); replace hF := (RC.trans hF) h₁; clear h₁; refine goes_oper_k rfl rfl hk (fun K hK => ?_); skip; go_simp; refine hK _ _ ⟨DM_of_below (B := 0) hTl hcl (Below.refl _ _) (fun e he => ?_), ?_⟩; (focus (have hm := mem_listed he; (simp [go_sem, *] at hm); (try (subst hm; exact evM_read _ _ (by simp))))); (clear hK K); (try walk_nrm))
  (refine Goes.step rfl (fun _ h₁ => ?_); walk_rw; refine ⟨DM_of_below (B := 0) hTl hcl (Below.refl _ _) (by simp), ?_⟩; replace hF := (RC.trans hF) h₁; clear h₁)
  (refine Goes.step rfl (fun _ h₁ => ?_); walk_rw; refine ⟨DM_of_below (B := 0) hTl hcl (Below.refl _ _) (by simp), ?_⟩; replace hF := (RC.trans hF) h₁; clear h₁)
  (refine Goes.step rfl (fun _ h₁ => ?_); walk_rw; refine ⟨DM_of_below (B := 0) hTl hcl (Below.refl _ _) (by simp), ?_⟩; replace hF := (RC.trans hF) h₁; clear h₁)
  (refine Goes.step rfl (fun _ h₁ => ?_); walk_rw; refine ⟨DM_of_below (B := 0) hTl hcl (Below.refl _ _) (by simp), ?_⟩; replace hF := (RC.trans hF) h₁; clear h₁)
  (refine Goes.step rfl (fun w₁ h₁ => ?_); replace hF := (RC.trans hF) h₁; clear h₁; refine goes_oper_k rfl rfl hk (fun K hK => ?_); skip; go_simp; refine hK _ _ ⟨DM_of_below (B := 0) hTl hcl (Below.refl _ _) (fun e he => ?_), ?_⟩; (focus (have hm := mem_listed he; (simp [go_sem, *] at hm); (try (subst hm; exact evM_read _ _ (by simp))))); (clear hK K); (try walk_nrm))
  (refine Goes.step rfl (fun _ h₁ => ?_); walk_rw; refine ⟨DM_of_below (B := 0) hTl hcl (Below.refl _ _) (by simp), ?_⟩; replace hF := (RC.trans hF) h₁; clear h₁)
  (refine Goes.step rfl (fun _ h₁ => ?_); walk_rw; refine ⟨DM_of_below (B := 0) hTl hcl (Below.refl _ _) (by simp), ?_⟩; replace hF := (RC.trans hF) h₁; clear h₁)
  (refine Goes.step rfl (fun _ h₁ => ?_); walk_rw; refine ⟨DM_of_below (B := 0) hTl hcl (Below.refl _ _) (by simp), ?_⟩; replace hF := (RC.trans hF) h₁; clear h₁)
  refine Goes.mono (n := m + 60 * (n + 1)) ?_ (by omega)
  exact h1 _ _ _ _ _ _ _ _ _ _ _ _ _ _ _ _ hF
end
end Go.Proofs.Ytplndihadjfliaa.Net
