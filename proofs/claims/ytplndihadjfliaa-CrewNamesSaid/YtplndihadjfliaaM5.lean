/-
  CREW: the walk of crew.Relay: goroutine 0 starts the hands.
-/
import Derived.Test.YtplndihadjfliaaM4
set_option linter.unusedSimpArgs false
set_option linter.unusedVariables false
set_option maxHeartbeats 2000000
namespace Go.Proofs.Ytplndihadjfliaa.Net
open Go Go.Conc Go.ConcN Go.Proofs Go.RowKit

/-- What the row makes of the numbers. -/
def addI (d x : Int) : Int := IntKind.i64.wrap (x + d)
def rowOut : List Int → List Int → List Int
  | xs, [] => xs
  | xs, d :: ds => rowOut (xs.map (addI d)) ds
theorem rowOut_length : ∀ (ds xs : List Int), (rowOut xs ds).length = xs.length
  | [], xs => rfl
  | d :: ds, xs => by rw [rowOut, rowOut_length ds, List.length_map]
theorem map_addV (d : Int) (xs : List Int) : (xs.map iv).map (addV d) = (xs.map (addI d)).map iv := by
  rw [List.map_map, List.map_map]; rfl

/-- k hands have been started. -/
structure RZ (N : Nat) (W : World) (ch : List Nat) (a0 : Option Addr) (n cap : Nat) (b0 : Option Addr) (m : Nat) (ds : List Int) (k : Nat) (w : World) : Prop where
  rk : RK N W ch a0 n cap b0 m ds (N + 3 + k) (.slice none 0 0) [] w
  sz : w.heap.size = N + 3 + k
/-- .. and the next one's channel has been made. -/
structure RF (N : Nat) (W : World) (ch : List Nat) (a0 : Option Addr) (n cap : Nat) (b0 : Option Addr) (m : Nat) (ds : List Int) (k : Nat) (w : World) : Prop where
  rk : RK N W ch a0 n cap b0 m ds (N + 3 + (k + 1)) (.slice none 0 0) [] w
  sz : w.heap.size = N + 3 + (k + 1)
  chn : ∃ s r tm, w.heap[N + 3 + k]? = some (.chan 0 #[] false s r tm)

section
variable {N : Nat} {W : World} {ch : List Nat} {a0 : Option Addr} {n cap : Nat} {b0 : Option Addr} {m : Nat} {ds : List Int} {k : Nat} {w w₁ : World}
theorem RZ.rely {ch' : List Nat} (hc : ∀ c ∈ ch', c ∈ ch ∨ c = N + 1 ∨ (N + 3 ≤ c ∧ c < N + 3 + k)) (h : RZ N W ch a0 n cap b0 m ds k w) (r : RC ch' w w₁) : RZ N W ch a0 n cap b0 m ds k w₁ := ⟨h.rk.rely hc r, r.size.trans h.sz⟩
theorem RZ.bxv (h : RZ N W ch a0 n cap b0 m ds k w) : w.cell? ⟨N, 0, none⟩ = some (.slice a0 n cap) := h.rk.bxv
theorem RZ.clv (h : RZ N W ch a0 n cap b0 m ds k w) : w.cell? ⟨N + 2, 0, none⟩ = some (.chan (some (N + 1))) := h.rk.clv
theorem RZ.adl (h : RZ N W ch a0 n cap b0 m ds k w) : ∀ j ad, j < m → b0 = some ad → w.cell? (ad.add j) = some (.int .i64 (ds[j]?.getD 0)) := h.rk.adl
theorem RF.rely {ch' : List Nat} (hc : ∀ c ∈ ch', c ∈ ch ∨ c = N + 1 ∨ (N + 3 ≤ c ∧ c < N + 3 + k)) (h : RF N W ch a0 n cap b0 m ds k w) (r : RC ch' w w₁) : RF N W ch a0 n cap b0 m ds k w₁ := by
  obtain ⟨s, r', tm, hcn⟩ := h.chn
  have hchN := h.rk.chN
  refine ⟨h.rk.rely (fun c hc' => by rcases hc c hc' with h | h | h <;> first | exact .inl h | omega) r, r.size.trans h.sz, s, r', tm, (r.block _ fun h3 => ?_).trans hcn⟩
  rcases hc _ h3 with h4 | h4 | h4 <;> first | (have := hchN _ h4; omega) | omega
theorem RF.bxv (h : RF N W ch a0 n cap b0 m ds k w) : w.cell? ⟨N, 0, none⟩ = some (.slice a0 n cap) := h.rk.bxv
theorem RF.clv (h : RF N W ch a0 n cap b0 m ds k w) : w.cell? ⟨N + 2, 0, none⟩ = some (.chan (some (N + 1))) := h.rk.clv
theorem RF.adl (h : RF N W ch a0 n cap b0 m ds k w) : ∀ j ad, j < m → b0 = some ad → w.cell? (ad.add j) = some (.int .i64 (ds[j]?.getD 0)) := h.rk.adl
theorem RZ.made (h : RZ N W ch a0 n cap b0 m ds k w) (s r : Nat) (tm : Bool) : RF N W ch a0 n cap b0 m ds k (w.alloc (.chan 0 #[] false s r tm)) :=
  ⟨(h.rk.alloc _).up (by omega) (by simp [h.sz]; omega), by simp [h.sz]; omega, s, r, tm, by rw [← h.sz]; exact heap_alloc_new w _⟩
theorem RF.next (h : RF N W ch a0 n cap b0 m ds k w) : RZ N W ch a0 n cap b0 m ds (k + 1) w := ⟨h.rk, h.sz⟩
end


section
variable (N : Nat) (W : World) (ch : List Nat) (a0 : Option Addr) (n cap : Nat) (b0 : Option Addr) (m capb : Nat) (ds : List Int) (cs : List Frame)

set_option maxRecDepth 100000 in
/-- From the head to the go statement. -/
theorem seg8_fork (T' ch' : List Nat) (Stop : Goroutine → World → Prop) (n₀ ci k : Nat) (hk : k < m) (hnil : ∃ ad, b0 = some ad) (hcs : ∀ c ∈ ch', c ∈ ch ∨ c = N + 1 ∨ (N + 3 ≤ c ∧ c < N + 3 + k)) (hT : ∀ b ∈ T', b < N + 3)
    (u3 u4 u7 u8 u9 u10 u11 u12 u13 u14 u15 u16 u17 u21 u22 u23 u24 u25 u26 u27 u28 u29 u30 u31 u32 u33 u34 u35 u36 u37 u38 : Value) (w : World) (hF : RZ N W ch a0 n cap b0 m ds k w)
    (next : ∀ (u3 u4 u7 u10 u11 u12 u13 u14 u15 u16 u17 u21 u22 u23 u24 u28 u29 u30 u31 u32 u33 u34 u35 u36 u37 u38 : Value) w', RF N W ch a0 n cap b0 m ds k w' → Goes Try.prog true (RC ch') (DM T' ch') Stop n₀ (fork8 N a0 n cap b0 m capb ds cs ci k u3 u4 u7 u10 u11 u12 u13 u14 u15 u16 u17 u21 u22 u23 u24 u28 u29 u30 u31 u32 u33 u34 u35 u36 u37 u38 [3]) w') : Goes Try.prog true (RC ch') (DM T' ch') Stop (n₀ + 60) (head8a N a0 n cap b0 m capb cs ci k u3 u4 u7 u8 u9 u10 u11 u12 u13 u14 u15 u16 u17 u21 u22 u23 u24 u25 u26 u27 u28 u29 u30 u31 u32 u33 u34 u35 u36 u37 u38) w := by
  have hTl : ∀ b ∈ T', b < 0 ∨ 0 = 0 := fun _ _ => .inr rfl
  have hcl : ∀ b ∈ ch', b < 0 ∨ 0 = 0 := fun _ _ => .inr rfl
  have hT2 : ∀ b ∈ T', b < N + 3 + k ∨ N + 3 + k = 0 := fun b hb => .inl (by have := hT b hb; omega)
  have hc2 : ∀ b ∈ ch', b < N + 3 + k ∨ N + 3 + k = 0 := fun b hb => .inl (by rcases hcs b hb with h | h | h <;> first | (have := hF.rk.chN b h; omega) | omega)
  obtain ⟨ad, rfl⟩ := hnil
  simp only [head8a, fork8, ops8f, B8r, B8, R8, L8a, rest8, tail8b, tail8a, body8, Try.f8, Option.getD_some] at next ⊢
  repeat (first | (refine Goes.step rfl (fun _ h₁ => ?_); walk_rw; refine ⟨DM_of_below (B := 0) hTl hcl (Below.refl _ _) (by simp), ?_⟩; replace hF := hF.rely hcs h₁; clear h₁) | (refine Goes.step rfl (fun w₁ h₁ => ?_); replace hF := hF.rely hcs h₁; clear h₁; refine goes_oper_k rfl rfl (by decide) (fun K hK => ?_); have hx := hF.bxv; have hch := hF.clv; have hel := hF.adl; go_simp; refine hK _ _ ⟨DM_of_below (B := 0) hTl hcl (Below.refl _ _) (fun e he => ?_), ?_⟩; (focus (have hm := mem_listed he; (simp [go_sem, *] at hm); (try (subst hm; exact evM_read _ _ (by simp))))); (clear hK K hx hch hel); (try walk_nrm)))
  (refine Goes.step rfl (fun _ h₁ => ?_); rw [stepG_cond (t := true) rfl]; simp only [goes_go, if_true, if_false, Bool.false_eq_true, ↓reduceIte]; refine ⟨DM_of_below (B := 0) hTl hcl (Below.refl _ _) (by simp), ?_⟩; replace hF := hF.rely hcs h₁; clear h₁)
  (refine Goes.step rfl (fun _ h₁ => ?_); walk_rw; refine ⟨DM_of_below (B := 0) hTl hcl (Below.refl _ _) (by simp), ?_⟩; replace hF := hF.rely hcs h₁; clear h₁)
  (refine Goes.step rfl (fun _ h₁ => ?_); walk_rw; refine ⟨DM_of_below (B := 0) hTl hcl (Below.refl _ _) (by simp), ?_⟩; replace hF := hF.rely hcs h₁; clear h₁)
  (refine Goes.step rfl (fun _ h₁ => ?_); walk_rw; refine ⟨DM_of_below (B := 0) hTl hcl (Below.refl _ _) (by simp), ?_⟩; replace hF := hF.rely hcs h₁; clear h₁)
  (refine Goes.step rfl (fun _ h₁ => ?_); walk_rw; refine ⟨DM_of_below (B := 0) hTl hcl (Below.refl _ _) (by simp), ?_⟩; replace hF := hF.rely hcs h₁; clear h₁)
  (refine Goes.step rfl (fun _ h₁ => ?_); walk_rw; refine ⟨DM_of_below (B := 0) hTl hcl (Below.refl _ _) (by simp), ?_⟩; replace hF := hF.rely hcs h₁; clear h₁)
  (refine Goes.step rfl (fun w₁ h₁ => ?_); replace hF := hF.rely hcs h₁; clear h₁; refine goes_oper_k rfl rfl (by decide) (fun K hK => ?_); have hx := hF.bxv; have hch := hF.clv; have hel := hF.adl; go_simp; refine hK _ _ ⟨DM_of_below (B := 0) hTl hcl (Below.refl _ _) (fun e he => ?_), ?_⟩; (focus (have hm := mem_listed he; (simp [go_sem, *] at hm); (try (subst hm; exact evM_read _ _ (by simp))))); (clear hK K hx hch hel); (try walk_nrm))
  (refine Goes.step rfl (fun w₁ h₁ => ?_); replace hF := hF.rely hcs h₁; clear h₁; refine goes_oper_k rfl rfl (by decide) (fun K hK => ?_); have hx := hF.bxv; have hch := hF.clv; have hel := hF.adl; go_simp; refine hK _ _ ⟨DM_of_below (B := 0) hTl hcl (Below.refl _ _) (fun e he => ?_), ?_⟩; (focus (have hm := mem_listed he; (simp [go_sem, *] at hm); (try (subst hm; exact evM_read _ _ (by simp))))); (clear hK K hx hch hel); (try walk_nrm))
  (refine Goes.step rfl (fun w₁ h₁ => ?_); replace hF := hF.rely hcs h₁; clear h₁; refine goes_oper_k rfl rfl (by decide) (fun K hK => ?_); have hx := hF.bxv; have hch := hF.clv; have hel := hF.adl; go_simp; refine hK _ _ ⟨DM_of_below (B := 0) hTl hcl (Below.refl _ _) (fun e he => ?_), ?_⟩; (focus (have hm := mem_listed he; (simp [go_sem, *] at hm); (try (subst hm; exact evM_read _ _ (by simp))))); (clear hK K hx hch hel); (try walk_nrm))
  (refine Goes.step rfl (fun _ h₁ => ?_); walk_rw; refine ⟨DM_of_below (B := 0) hTl hcl (Below.refl _ _) (by simp), ?_⟩; replace hF := hF.rely hcs h₁; clear h₁)
  (refine Goes.step rfl (fun _ h₁ => ?_); walk_rw; refine ⟨DM_of_below (B := 0) hTl hcl (Below.refl _ _) (by simp), ?_⟩; replace hF := hF.rely hcs h₁; clear h₁)
  (refine Goes.step rfl (fun _ h₁ => ?_); walk_rw; refine ⟨DM_of_below (B := 0) hTl hcl (Below.refl _ _) (by simp), ?_⟩; replace hF := hF.rely hcs h₁; clear h₁)
  refine Goes.step rfl (fun w₁ h₁ => ?_)
  replace hF := hF.rely hcs h₁
  clear h₁
  refine goes_oper_k rfl rfl (by decide) (fun K hK => ?_)
  go_simp
  refine hK _ _ ⟨DM_of_below hT2 hc2 ((Below.refl _ _).alloc (by rw [hF.sz]; exact Nat.le_refl _) _) (fun e he => ?_) (fun h => absurd h (by omega)), ?_⟩
  · have hm := mem_listed he
    simp [go_sem] at hm
  clear hK K
  rw [hF.sz]
  replace hF := hF.made 0 0 false
  (refine Goes.step rfl (fun w₁ h₁ => ?_); replace hF := hF.rely hcs h₁; clear h₁; refine goes_oper_k rfl rfl (by decide) (fun K hK => ?_); have hx := hF.bxv; have hch := hF.clv; have hel := hF.adl; go_simp; refine hK _ _ ⟨DM_of_below (B := 0) hTl hcl (Below.refl _ _) (fun e he => ?_), ?_⟩; (focus (have hm := mem_listed he; (simp [go_sem, *] at hm); (try (subst hm; exact evM_read _ _ (by simp))))); (clear hK K hx hch hel); (try walk_nrm))
  (refine Goes.step rfl (fun _ h₁ => ?_); walk_rw; refine ⟨DM_of_below (B := 0) hTl hcl (Below.refl _ _) (by simp), ?_⟩; replace hF := hF.rely hcs h₁; clear h₁)
  (refine Goes.step rfl (fun _ h₁ => ?_); walk_rw; refine ⟨DM_of_below (B := 0) hTl hcl (Below.refl _ _) (by simp), ?_⟩; replace hF := hF.rely hcs h₁; clear h₁)
  (refine Goes.step rfl (fun _ h₁ => ?_); walk_rw; refine ⟨DM_of_below (B := 0) hTl hcl (Below.refl _ _) (by simp), ?_⟩; replace hF := hF.rely hcs h₁; clear h₁)
  (refine Goes.step rfl (fun w₁ h₁ => ?_); replace hF := hF.rely hcs h₁; clear h₁; refine goes_oper_k rfl rfl (by decide) (fun K hK => ?_); have hx := hF.bxv; have hch := hF.clv; have hel := hF.adl; go_simp; refine hK _ _ ⟨DM_of_below (B := 0) hTl hcl (Below.refl _ _) (fun e he => ?_), ?_⟩; (focus (have hm := mem_listed he; (simp [go_sem, *] at hm); (try (subst hm; exact evM_read _ _ (by simp))))); (clear hK K hx hch hel); (try walk_nrm))
  (refine Goes.step rfl (fun w₁ h₁ => ?_); replace hF := hF.rely hcs h₁; clear h₁; refine goes_oper_k rfl rfl (by decide) (fun K hK => ?_); have hx := hF.bxv; have hch := hF.clv; have hel := hF.adl; go_simp; refine hK _ _ ⟨DM_of_below (B := 0) hTl hcl (Below.refl _ _) (fun e he => ?_), ?_⟩; (focus (have hm := mem_listed he; (simp [go_sem, *] at hm); (try (subst hm; exact evM_read _ _ (by simp))))); (clear hK K hx hch hel); (try walk_nrm))
  (refine Goes.step rfl (fun w₁ h₁ => ?_); replace hF := hF.rely hcs h₁; clear h₁; refine goes_oper_k rfl rfl (by decide) (fun K hK => ?_); have hx := hF.bxv; have hch := hF.clv; have hel := hF.adl; go_simp; refine hK _ _ ⟨DM_of_below (B := 0) hTl hcl (Below.refl _ _) (fun e he => ?_), ?_⟩; (focus (have hm := mem_listed he; (simp [go_sem, *] at hm); (try (subst hm; exact evM_read _ _ (by simp))))); (clear hK K hx hch hel); (try walk_nrm))
  refine Goes.mono (n := n₀) ?_ (by omega)
  exact next _ _ _ _ _ _ _ _ _ _ _ _ _ _ _ _ _ _ _ _ _ _ _ _ _ _ _ hF

set_option maxRecDepth 100000 in
/-- From behind the go statement to the head. -/
theorem seg8_next (T' ch' : List Nat) (Stop : Goroutine → World → Prop) (n₀ ci k : Nat) (hk : k < m) (hm64 : m ≤ 64) (hcs : ∀ c ∈ ch', c ∈ ch ∨ c = N + 1 ∨ (N + 3 ≤ c ∧ c < N + 3 + (k + 1)))
    (u3 u4 u7 u10 u11 u12 u13 u14 u15 u16 u17 u21 u22 u23 u24 u28 u29 u30 u31 u32 u33 u34 u35 u36 u37 u38 : Value) (w : World) (hF : RZ N W ch a0 n cap b0 m ds (k + 1) w)
    (next : ∀ (u3 u4 u7 u8 u9 u10 u11 u12 u13 u14 u15 u16 u17 u21 u22 u23 u24 u25 u26 u27 u28 u29 u30 u31 u32 u33 u34 u35 u36 u37 u38 : Value) w', RZ N W ch a0 n cap b0 m ds (k + 1) w' → Goes Try.prog true (RC ch') (DM T' ch') Stop n₀ (head8a N a0 n cap b0 m capb cs (N + 3 + k) (k + 1) u3 u4 u7 u8 u9 u10 u11 u12 u13 u14 u15 u16 u17 u21 u22 u23 u24 u25 u26 u27 u28 u29 u30 u31 u32 u33 u34 u35 u36 u37 u38) w') : Goes Try.prog true (RC ch') (DM T' ch') Stop (n₀ + 20) (fork8 N a0 n cap b0 m capb ds cs ci k u3 u4 u7 u10 u11 u12 u13 u14 u15 u16 u17 u21 u22 u23 u24 u28 u29 u30 u31 u32 u33 u34 u35 u36 u37 u38 []) w := by
  have hTl : ∀ b ∈ T', b < 0 ∨ 0 = 0 := fun _ _ => .inr rfl
  have hcl : ∀ b ∈ ch', b < 0 ∨ 0 = 0 := fun _ _ => .inr rfl
  have hwr : IntKind.i64.wrap ((k : Int) + 1) = ((k + 1 : Nat) : Int) := by rw [IntKind.wrap_i64]; omega
  simp only [head8a, fork8, ops8f, B8r, B8, R8, L8a, rest8, tail8b, tail8a, body8, Try.f8, Option.getD_some] at next ⊢
  (refine Goes.step rfl (fun _ h₁ => ?_); walk_rw; refine ⟨DM_of_below (B := 0) hTl hcl (Below.refl _ _) (by simp), ?_⟩; replace hF := hF.rely hcs h₁; clear h₁)
  (refine Goes.step rfl (fun _ h₁ => ?_); walk_rw; refine ⟨DM_of_below (B := 0) hTl hcl (Below.refl _ _) (by simp), ?_⟩; replace hF := hF.rely hcs h₁; clear h₁)
  (refine Goes.step rfl (fun w₁ h₁ => ?_); replace hF := hF.rely hcs h₁; clear h₁; refine goes_oper_k rfl rfl (by decide) (fun K hK => ?_); have hx := hF.bxv; have hch := hF.clv; have hel := hF.adl; go_simp; refine hK _ _ ⟨DM_of_below (B := 0) hTl hcl (Below.refl _ _) (fun e he => ?_), ?_⟩; (focus (have hm := mem_listed he; (simp [go_sem, *] at hm); (try (subst hm; exact evM_read _ _ (by simp))))); (clear hK K hx hch hel); (try walk_nrm))
  (refine Goes.step rfl (fun w₁ h₁ => ?_); replace hF := hF.rely hcs h₁; clear h₁; refine goes_oper_k rfl rfl (by decide) (fun K hK => ?_); have hx := hF.bxv; have hch := hF.clv; have hel := hF.adl; go_simp; refine hK _ _ ⟨DM_of_below (B := 0) hTl hcl (Below.refl _ _) (fun e he => ?_), ?_⟩; (focus (have hm := mem_listed he; (simp [go_sem, *] at hm); (try (subst hm; exact evM_read _ _ (by simp))))); (clear hK K hx hch hel); (try walk_nrm))
  (refine Goes.step rfl (fun _ h₁ => ?_); walk_rw; refine ⟨DM_of_below (B := 0) hTl hcl (Below.refl _ _) (by simp), ?_⟩; replace hF := hF.rely hcs h₁; clear h₁)
  (refine Goes.step rfl (fun _ h₁ => ?_); walk_rw; refine ⟨DM_of_below (B := 0) hTl hcl (Below.refl _ _) (by simp), ?_⟩; replace hF := hF.rely hcs h₁; clear h₁)
  (refine Goes.step rfl (fun _ h₁ => ?_); walk_rw; refine ⟨DM_of_below (B := 0) hTl hcl (Below.refl _ _) (by simp), ?_⟩; replace hF := hF.rely hcs h₁; clear h₁)
  (refine Goes.step rfl (fun w₁ h₁ => ?_); replace hF := hF.rely hcs h₁; clear h₁; refine goes_oper_k rfl rfl (by decide) (fun K hK => ?_); have hx := hF.bxv; have hch := hF.clv; have hel := hF.adl; go_simp; refine hK _ _ ⟨DM_of_below (B := 0) hTl hcl (Below.refl _ _) (fun e he => ?_), ?_⟩; (focus (have hm := mem_listed he; (simp [go_sem, *] at hm); (try (subst hm; exact evM_read _ _ (by simp))))); (clear hK K hx hch hel); (try walk_nrm))
  (refine Goes.step rfl (fun w₁ h₁ => ?_); replace hF := hF.rely hcs h₁; clear h₁; refine goes_oper_k rfl rfl (by decide) (fun K hK => ?_); have hx := hF.bxv; have hch := hF.clv; have hel := hF.adl; go_simp; refine hK _ _ ⟨DM_of_below (B := 0) hTl hcl (Below.refl _ _) (fun e he => ?_), ?_⟩; (focus (have hm := mem_listed he; (simp [go_sem, *] at hm); (try (subst hm; exact evM_read _ _ (by simp))))); (clear hK K hx hch hel); (try walk_nrm))
  (refine Goes.step rfl (fun _ h₁ => ?_); walk_rw; refine ⟨DM_of_below (B := 0) hTl hcl (Below.refl _ _) (by simp), ?_⟩; replace hF := hF.rely hcs h₁; clear h₁)
  (refine Goes.step rfl (fun _ h₁ => ?_); walk_rw; refine ⟨DM_of_below (B := 0) hTl hcl (Below.refl _ _) (by simp), ?_⟩; replace hF := hF.rely hcs h₁; clear h₁)
  refine Goes.mono (n := n₀) ?_ (by omega)
  exact next _ _ _ _ _ _ _ _ _ _ _ _ _ _ _ _ _ _ _ _ _ _ _ _ _ _ _ _ _ _ _ _ hF

set_option maxRecDepth 100000 in
/-- From the head, all hands started, to the second loop's head. -/
theorem seg8_exit (T' ch' : List Nat) (Stop : Goroutine → World → Prop) (n₀ ci : Nat) (hcs : ∀ c ∈ ch', c ∈ ch ∨ c = N + 1 ∨ (N + 3 ≤ c ∧ c < N + 3 + m))
    (u3 u4 u7 u8 u9 u10 u11 u12 u13 u14 u15 u16 u17 u21 u22 u23 u24 u25 u26 u27 u28 u29 u30 u31 u32 u33 u34 u35 u36 u37 u38 : Value) (w : World) (hF : RZ N W ch a0 n cap b0 m ds m w)
    (next : ∀ (u0 u1 u2 u3 u4 u5 u6 u7 u8 u9 u11 u12 u13 u14 u15 u16 u17 u18 u19 u20 u21 u22 u23 u24 u25 u26 u27 u28 u29 u31 u32 u33 u34 u35 u36 u37 u38 : Value) w', RZ N W ch a0 n cap b0 m ds m w' → Goes Try.prog true (RC ch') (DM T' ch') Stop n₀ (head8b cs ci (.slice none 0 0) u0 u1 u2 u3 u4 u5 u6 u7 u8 u9 u11 u12 u13 u14 u15 u16 u17 u18 u19 u20 u21 u22 u23 u24 u25 u26 u27 u28 u29 u31 u32 u33 u34 u35 u36 u37 u38) w') : Goes Try.prog true (RC ch') (DM T' ch') Stop (n₀ + 40) (head8a N a0 n cap b0 m capb cs ci m u3 u4 u7 u8 u9 u10 u11 u12 u13 u14 u15 u16 u17 u21 u22 u23 u24 u25 u26 u27 u28 u29 u30 u31 u32 u33 u34 u35 u36 u37 u38) w := by
  have hTl : ∀ b ∈ T', b < 0 ∨ 0 = 0 := fun _ _ => .inr rfl
  have hcl : ∀ b ∈ ch', b < 0 ∨ 0 = 0 := fun _ _ => .inr rfl
  simp only [head8a, head8b, L8b, end8, L8a, rest8, tail8b, tail8a, body8, Try.f8, Option.getD_some] at next ⊢
  repeat (first | (refine Goes.step rfl (fun _ h₁ => ?_); walk_rw; refine ⟨DM_of_below (B := 0) hTl hcl (Below.refl _ _) (by simp), ?_⟩; replace hF := hF.rely hcs h₁; clear h₁) | (refine Goes.step rfl (fun w₁ h₁ => ?_); replace hF := hF.rely hcs h₁; clear h₁; refine goes_oper_k rfl rfl (by decide) (fun K hK => ?_); have hx := hF.bxv; have hch := hF.clv; have hel := hF.adl; go_simp; refine hK _ _ ⟨DM_of_below (B := 0) hTl hcl (Below.refl _ _) (fun e he => ?_), ?_⟩; (focus (have hm := mem_listed he; (simp [go_sem, *] at hm); (try (subst hm; exact evM_read _ _ (by simp))))); (clear hK K hx hch hel); (try walk_nrm)))
  (refine Goes.step rfl (fun _ h₁ => ?_); rw [stepG_cond (t := false) rfl]; simp only [goes_go, if_true, if_false, Bool.false_eq_true, ↓reduceIte]; refine ⟨DM_of_below (B := 0) hTl hcl (Below.refl _ _) (by simp), ?_⟩; replace hF := hF.rely hcs h₁; clear h₁)
  (refine Goes.step rfl (fun _ h₁ => ?_); apply goes_exit; (focus rfl); refine ⟨DM_of_below (B := 0) hTl hcl (Below.refl _ _) (by simp), ?_⟩; replace hF := hF.rely hcs h₁; clear h₁)
  (refine Goes.step rfl (fun _ h₁ => ?_); walk_rw; refine ⟨DM_of_below (B := 0) hTl hcl (Below.refl _ _) (by simp), ?_⟩; replace hF := hF.rely hcs h₁; clear h₁)
  (refine Goes.step rfl (fun _ h₁ => ?_); walk_rw; refine ⟨DM_of_below (B := 0) hTl hcl (Below.refl _ _) (by simp), ?_⟩; replace hF := hF.rely hcs h₁; clear h₁)
  (refine Goes.step rfl (fun w₁ h₁ => ?_); replace hF := hF.rely hcs h₁; clear h₁; refine goes_oper_k rfl rfl (by decide) (fun K hK => ?_); have hx := hF.bxv; have hch := hF.clv; have hel := hF.adl; go_simp; refine hK _ _ ⟨DM_of_below (B := 0) hTl hcl (Below.refl _ _) (fun e he => ?_), ?_⟩; (focus (have hm := mem_listed he; (simp [go_sem, *] at hm); (try (subst hm; exact evM_read _ _ (by simp))))); (clear hK K hx hch hel); (try walk_nrm))
  (refine Goes.step rfl (fun _ h₁ => ?_); walk_rw; refine ⟨DM_of_below (B := 0) hTl hcl (Below.refl _ _) (by simp), ?_⟩; replace hF := hF.rely hcs h₁; clear h₁)
  (refine Goes.step rfl (fun _ h₁ => ?_); walk_rw; refine ⟨DM_of_below (B := 0) hTl hcl (Below.refl _ _) (by simp), ?_⟩; replace hF := hF.rely hcs h₁; clear h₁)
  (refine Goes.step rfl (fun _ h₁ => ?_); walk_rw; refine ⟨DM_of_below (B := 0) hTl hcl (Below.refl _ _) (by simp), ?_⟩; replace hF := hF.rely hcs h₁; clear h₁)
  (refine Goes.step rfl (fun _ h₁ => ?_); walk_rw; refine ⟨DM_of_below (B := 0) hTl hcl (Below.refl _ _) (by simp), ?_⟩; replace hF := hF.rely hcs h₁; clear h₁)
  (refine Goes.step rfl (fun w₁ h₁ => ?_); replace hF := hF.rely hcs h₁; clear h₁; refine goes_oper_k rfl rfl (by decide) (fun K hK => ?_); have hx := hF.bxv; have hch := hF.clv; have hel := hF.adl; go_simp; refine hK _ _ ⟨DM_of_below (B := 0) hTl hcl (Below.refl _ _) (fun e he => ?_), ?_⟩; (focus (have hm := mem_listed he; (simp [go_sem, *] at hm); (try (subst hm; exact evM_read _ _ (by simp))))); (clear hK K hx hch hel); (try walk_nrm))
  (refine Goes.step rfl (fun _ h₁ => ?_); walk_rw; refine ⟨DM_of_below (B := 0) hTl hcl (Below.refl _ _) (by simp), ?_⟩; replace hF := hF.rely hcs h₁; clear h₁)
  (refine Goes.step rfl (fun _ h₁ => ?_); walk_rw; refine ⟨DM_of_below (B := 0) hTl hcl (Below.refl _ _) (by simp), ?_⟩; replace hF := hF.rely hcs h₁; clear h₁)
  (refine Goes.step rfl (fun _ h₁ => ?_); walk_rw; refine ⟨DM_of_below (B := 0) hTl hcl (Below.refl _ _) (by simp), ?_⟩; replace hF := hF.rely hcs h₁; clear h₁)
  refine Goes.mono (n := n₀) ?_ (by omega)
  exact next _ _ _ _ _ _ _ _ _ _ _ _ _ _ _ _ _ _ _ _ _ _ _ _ _ _ _ _ _ _ _ _ _ _ _ _ _ _ hF

/-- A go statement that names its function. -/
theorem run_go_func {P : Program} {a : Act} {o : Oper} {f : FuncId} {args : Array Operand} {ats : Array TypeId} (hop : o.op = .go { callee := .value (.func f), args, argTypes := ats }) (w : World) :
    (execOp a.eval o).run P w = .ok (.spawn { target := .fn (.func f) #[], args := args.map a.eval }) w ∧ (execOp a.eval o).events P w #[] = #[] := by
  have ef : a.eval (.func f) = .func (.func f) #[] #[] := rfl
  constructor
  · unfold execOp
    simp [hop, resolve, Deferred.ofValue, ef]
  · unfold execOp
    simp [hop, resolve, Deferred.ofValue, ef]

set_option maxRecDepth 100000 in
/-- AT THE go STATEMENT. -/
theorem at8_fork {Post : List Nat → List Nat → Goroutine → World → Prop} (T' ch' : List Nat) (ci k : Nat) (hcs : ∀ c ∈ ch', c ∈ ch ∨ c = N + 1 ∨ (N + 3 ≤ c ∧ c < N + 3 + k)) (hT : ∀ b ∈ T', b < N + 3) (xs : List Int) (al : List Do)
    (u3 u4 u7 u10 u11 u12 u13 u14 u15 u16 u17 u21 u22 u23 u24 u28 u29 u30 u31 u32 u33 u34 u35 u36 u37 u38 : Value) (w : World) (hF : RF N W ch a0 n cap b0 m ds k w)
    (next : FollowM Try.prog zi Post al T' ((N + 3 + k) :: ch') (fork8 N a0 n cap b0 m capb ds cs ci k u3 u4 u7 u10 u11 u12 u13 u14 u15 u16 u17 u21 u22 u23 u24 u28 u29 u30 u31 u32 u33 u34 u35 u36 u37 u38 []) w) :
    stopM Try.prog zi Post (.fork [] [N + 3 + k] (hnd ci (N + 3 + k) (addV (ds[k]?.getD 0)) (xs.map iv)) :: al) T' ch' (fork8 N a0 n cap b0 m capb ds cs ci k u3 u4 u7 u10 u11 u12 u13 u14 u15 u16 u17 u21 u22 u23 u24 u28 u29 u30 u31 u32 u33 u34 u35 u36 u37 u38 [3]) w := by
  obtain ⟨hr, he⟩ := run_go_func (P := Try.prog) (a := ⟨#[.slice a0 n cap, .slice b0 m capb, .pointer (some ⟨N, 0, none⟩), u3, u4, .pointer (some ⟨N + 2, 0, none⟩), .chan (some ci), u7, iv (ds[k]?.getD 0), .chan (some (N + 3 + k)), u10, u11, u12, u13, u14, u15, u16, u17, .slice b0 m capb, .int .i64 m, .int .i64 k, u21, u22, u23, u24, iv (ds[k]?.getD 0), .chan (some ci), .chan (some (N + 3 + k)), u28, u29, u30, u31, u32, u33, u34, u35, u36, u37, u38], []⟩) (o := { dst := none, op := .go { callee := .value (.func 20), args := #[.tmp 25, .tmp 26, .tmp 27], argTypes := #[3, 34, 54] }, type := 0, pos := "crew.go:78", after := #[{ on := 0, ground := .data }, { on := 1, ground := .data }, { on := 2, ground := .data }], guard := none }) rfl w
  have ha : (#[.tmp 25, .tmp 26, .tmp 27] : Array Operand).map (Act.eval ⟨#[.slice a0 n cap, .slice b0 m capb, .pointer (some ⟨N, 0, none⟩), u3, u4, .pointer (some ⟨N + 2, 0, none⟩), .chan (some ci), u7, iv (ds[k]?.getD 0), .chan (some (N + 3 + k)), u10, u11, u12, u13, u14, u15, u16, u17, .slice b0 m capb, .int .i64 m, .int .i64 k, u21, u22, u23, u24, iv (ds[k]?.getD 0), .chan (some ci), .chan (some (N + 3 + k)), u28, u29, u30, u31, u32, u33, u34, u35, u36, u37, u38], []⟩) = #[iv (ds[k]?.getD 0), .chan (some ci), .chan (some (N + 3 + k))] := by simp [Act.eval]
  rw [ha] at hr
  have hst : stepG Try.prog true (fork8 N a0 n cap b0 m capb ds cs ci k u3 u4 u7 u10 u11 u12 u13 u14 u15 u16 u17 u21 u22 u23 u24 u28 u29 u30 u31 u32 u33 u34 u35 u36 u37 u38 [3]) w = .spawn (fork8 N a0 n cap b0 m capb ds cs ci k u3 u4 u7 u10 u11 u12 u13 u14 u15 u16 u17 u21 u22 u23 u24 u28 u29 u30 u31 u32 u33 u34 u35 u36 u37 u38 []) (born Try.prog { target := .fn (.func 20) #[], args := #[iv (ds[k]?.getD 0), .chan (some ci), .chan (some (N + 3 + k))] }) w (listed Try.prog 8 ⟨#[.slice a0 n cap, .slice b0 m capb, .pointer (some ⟨N, 0, none⟩), u3, u4, .pointer (some ⟨N + 2, 0, none⟩), .chan (some ci), u7, iv (ds[k]?.getD 0), .chan (some (N + 3 + k)), u10, u11, u12, u13, u14, u15, u16, u17, .slice b0 m capb, .int .i64 m, .int .i64 k, u21, u22, u23, u24, iv (ds[k]?.getD 0), .chan (some ci), .chan (some (N + 3 + k)), u28, u29, u30, u31, u32, u33, u34, u35, u36, u37, u38], []⟩ { dst := none, op := .go { callee := .value (.func 20), args := #[.tmp 25, .tmp 26, .tmp 27], argTypes := #[3, 34, 54] }, type := 0, pos := "crew.go:78", after := #[{ on := 0, ground := .data }, { on := 1, ground := .data }, { on := 2, ground := .data }], guard := none } w) :=
    stepG_spawn (b := base 8) (ops := ops8f) (i := 3) (rest := []) (main := true) (k := [.code B8r, .inBlock 1, .code R8, .inLoop L8a, .inBlock 0, .code rest8]) (cs := cs) rfl rfl (by decide) hr rfl
  have hl : listed Try.prog 8 ⟨#[.slice a0 n cap, .slice b0 m capb, .pointer (some ⟨N, 0, none⟩), u3, u4, .pointer (some ⟨N + 2, 0, none⟩), .chan (some ci), u7, iv (ds[k]?.getD 0), .chan (some (N + 3 + k)), u10, u11, u12, u13, u14, u15, u16, u17, .slice b0 m capb, .int .i64 m, .int .i64 k, u21, u22, u23, u24, iv (ds[k]?.getD 0), .chan (some ci), .chan (some (N + 3 + k)), u28, u29, u30, u31, u32, u33, u34, u35, u36, u37, u38], []⟩ { dst := none, op := .go { callee := .value (.func 20), args := #[.tmp 25, .tmp 26, .tmp 27], argTypes := #[3, 34, 54] }, type := 0, pos := "crew.go:78", after := #[{ on := 0, ground := .data }, { on := 1, ground := .data }, { on := 2, ground := .data }], guard := none } w = #[] := listed_nil he
  rw [hl] at hst
  refine ⟨rfl, _, _, w, #[], hst, by simp, fun _ _ => rfl, fun _ _ => rfl, fun c hc => ?_, fun b hb => (by cases hb), rfl, hand_follows _ _ _ xs w, next⟩
  obtain rfl : c = N + 3 + k := by simpa using hc
  refine ⟨fun h => ?_, fun h => ?_, hF.chn⟩
  · have := hT _ (by simpa using h); omega
  · rcases hcs _ h with h | h | h <;> first | (have := hF.rk.chN _ h; omega) | omega

/-- IT STARTS THE HANDS, and takes all that comes. -/
theorem loop8a {Post : List Nat → List Nat → Goroutine → World → Prop} (T' : List Nat) (hT : ∀ b ∈ T', b < N + 3) (hm64 : m ≤ 64) (hnil : 0 < m → ∃ ad, b0 = some ad)
    (bC : Frame) (aC : Act) (opsC : Array Oper) (iC : Nat) (restC : List Nat) (kC : List Item) (csC : List Frame) (hcs0 : cs = bC.at aC (.inRegion opsC (iC :: restC) :: kC) :: csC) (all : List Int)
    (hPost : ∀ out w, RK N W ch a0 n cap b0 m ds (N + 3 + m) out (all.map iv) w → Post T' (chL N ch m) (G (bC.at (aC.put ((opsC[iC]?).bind (·.dst)) out) (.inRegion opsC restC :: kC)) csC) w) :
    ∀ (rem : List Int) (k : Nat) (xs : List Int), ds.drop k = rem → k + rem.length = m → rowOut xs rem = all → xs.length * 8 ≤ 140737488355328 → ∃ n₁, ∀ (u3 u4 u7 u8 u9 u10 u11 u12 u13 u14 u15 u16 u17 u21 u22 u23 u24 u25 u26 u27 u28 u29 u30 u31 u32 u33 u34 u35 u36 u37 u38 : Value) w, RZ N W ch a0 n cap b0 m ds k w →
      Goes Try.prog true (RC (chL N ch k)) (DM T' (chL N ch k)) (stopM Try.prog zi Post (mains (chA N k) (xs.map iv) (lst N k rem)) T' (chL N ch k)) n₁ (head8a N a0 n cap b0 m capb cs (chA N k) k u3 u4 u7 u8 u9 u10 u11 u12 u13 u14 u15 u16 u17 u21 u22 u23 u24 u25 u26 u27 u28 u29 u30 u31 u32 u33 u34 u35 u36 u37 u38) w := by
  intro rem
  induction rem with
  | nil =>
    intro k xs hd hk hall hlen
    obtain rfl : k = m := by simpa using hk
    have hall : xs = all := hall
    subst hall
    obtain ⟨n₁, h₁⟩ := loop8b N W ch a0 n cap b0 k ds cs (Post := Post) T' (chL N ch k) (chA N k) (N + 3 + k) (fun c hc => chL_mem hc) (fun b hb => by have := hT b hb; omega) bC aC opsC iC restC kC csC hcs0 (xs.map iv) hPost xs [] (by simp) (by simpa using hlen)
    exact ⟨n₁ + 40, fun u3 u4 u7 u8 u9 u10 u11 u12 u13 u14 u15 u16 u17 u21 u22 u23 u24 u25 u26 u27 u28 u29 u30 u31 u32 u33 u34 u35 u36 u37 u38 w hF => seg8_exit N W ch a0 n cap b0 k capb ds cs T' (chL N ch k) _ n₁ (chA N k) (fun c hc => chL_mem hc) u3 u4 u7 u8 u9 u10 u11 u12 u13 u14 u15 u16 u17 u21 u22 u23 u24 u25 u26 u27 u28 u29 u30 u31 u32 u33 u34 u35 u36 u37 u38 w hF fun u0 u1 u2 u3 u4 u5 u6 u7 u8 u9 u11 u12 u13 u14 u15 u16 u17 u18 u19 u20 u21 u22 u23 u24 u25 u26 u27 u28 u29 u31 u32 u33 u34 u35 u36 u37 u38 w' hF => h₁ _ u0 u1 u2 u3 u4 u5 u6 u7 u8 u9 u11 u12 u13 u14 u15 u16 u17 u18 u19 u20 u21 u22 u23 u24 u25 u26 u27 u28 u29 u31 u32 u33 u34 u35 u36 u37 u38 w' hF.rk⟩
  | cons d rem ih =>
    intro k xs hd hk hall hlen
    have hkm : k < m := by simp only [List.length_cons] at hk; omega
    have hkl : k < ds.length := by
      rcases Nat.lt_or_ge k ds.length with h | h
      · exact h
      · rw [List.drop_eq_nil_of_le h] at hd; cases hd
    have hcons := List.drop_eq_getElem_cons hkl
    rw [hd] at hcons
    have hdk : ds[k]?.getD 0 = d := by rw [List.getElem?_eq_getElem hkl]; exact (List.cons.inj hcons).1.symm
    obtain ⟨n₁, h₁⟩ := ih (k + 1) (xs.map (addI d)) (List.cons.inj hcons).2.symm (by simp only [List.length_cons] at hk; omega) hall (by simpa using hlen)
    refine ⟨0 + 60, fun u3 u4 u7 u8 u9 u10 u11 u12 u13 u14 u15 u16 u17 u21 u22 u23 u24 u25 u26 u27 u28 u29 u30 u31 u32 u33 u34 u35 u36 u37 u38 w hF => seg8_fork N W ch a0 n cap b0 m capb ds cs T' (chL N ch k) _ 0 (chA N k) k hkm (hnil (by omega)) (fun c hc => chL_mem hc) hT u3 u4 u7 u8 u9 u10 u11 u12 u13 u14 u15 u16 u17 u21 u22 u23 u24 u25 u26 u27 u28 u29 u30 u31 u32 u33 u34 u35 u36 u37 u38 w hF fun u3 u4 u7 u10 u11 u12 u13 u14 u15 u16 u17 u21 u22 u23 u24 u28 u29 u30 u31 u32 u33 u34 u35 u36 u37 u38 w' hF => Goes.stop fun w₂ h₂ => ?_⟩
    have hF2 := hF.rely (fun c hc => chL_mem hc) h₂
    have e : mains (chA N k) (xs.map iv) (lst N k (d :: rem)) = .fork [] [N + 3 + k] (hnd (chA N k) (N + 3 + k) (addV (ds[k]?.getD 0)) (xs.map iv)) :: mains (chA N (k + 1)) ((xs.map (addI d)).map iv) (lst N (k + 1) rem) := by
      rw [hdk, ← map_addV]; rfl
    rw [e]
    refine at8_fork N W ch a0 n cap b0 m capb ds cs T' (chL N ch k) (chA N k) k (fun c hc => chL_mem hc) hT xs _ u3 u4 u7 u10 u11 u12 u13 u14 u15 u16 u17 u21 u22 u23 u24 u28 u29 u30 u31 u32 u33 u34 u35 u36 u37 u38 w₂ hF2 ?_
    exact followM_iff.2 ⟨n₁ + 20, seg8_next N W ch a0 n cap b0 m capb ds cs T' (chL N ch (k + 1)) _ n₁ (chA N k) k hkm hm64 (fun c hc => chL_mem hc) u3 u4 u7 u10 u11 u12 u13 u14 u15 u16 u17 u21 u22 u23 u24 u28 u29 u30 u31 u32 u33 u34 u35 u36 u37 u38 w₂ hF2.next fun u3 u4 u7 u8 u9 u10 u11 u12 u13 u14 u15 u16 u17 u21 u22 u23 u24 u25 u26 u27 u28 u29 u30 u31 u32 u33 u34 u35 u36 u37 u38 w' hF => h₁ u3 u4 u7 u8 u9 u10 u11 u12 u13 u14 u15 u16 u17 u21 u22 u23 u24 u25 u26 u27 u28 u29 u30 u31 u32 u33 u34 u35 u36 u37 u38 w' hF⟩
end
end Go.Proofs.Ytplndihadjfliaa.Net
/-
  CREW: the walk of crew.Relay from its entry: goroutine 0 follows the row's script.
-/
set_option linter.unusedSimpArgs false
set_option linter.unusedVariables false
set_option maxHeartbeats 2000000
namespace Go.Proofs.Ytplndihadjfliaa.Net
open Go Go.Conc Go.ConcN Go.Proofs Go.RowKit

theorem DM_of_below' {B : Nat} {T ch : List Nat} (hT : ∀ b ∈ T, b < B) (hc : ∀ c ∈ ch, c < B) {w w' : World} {es : Array Event} (h : Below B w w') (he : ∀ e ∈ es, EvM T e) : DM T ch w w' es :=
  ⟨fun b hb => h.block b (hT b hb), fun b hb => h.block b (hc b hb), he⟩

/-- Ahead of the go statement: j blocks have been made. -/
structure RE (N : Nat) (W : World) (ch : List Nat) (j : Nat) (w : World) : Prop where
  os : w.os = W.os
  tape : w.tape = W.tape
  output : w.output = W.output
  sz : w.heap.size = N + j
  old : ∀ b, b < N → b ∉ ch → w.heap[b]? = W.heap[b]?
  chN : ∀ c ∈ ch, c < N
/-- .. the values' box; the first channel; its variable. -/
structure RE1 (N : Nat) (W : World) (ch : List Nat) (a0 : Option Addr) (n cap : Nat) (j : Nat) (w : World) : Prop where
  re : RE N W ch j w
  bxv : w.cell? ⟨N, 0, none⟩ = some (.slice a0 n cap)
structure RE2 (N : Nat) (W : World) (ch : List Nat) (a0 : Option Addr) (n cap : Nat) (j : Nat) (w : World) : Prop where
  r1 : RE1 N W ch a0 n cap j w
  chn : ∃ s r tm, w.heap[N + 1]? = some (.chan 0 #[] false s r tm)
structure RE3 (N : Nat) (W : World) (ch : List Nat) (a0 : Option Addr) (n cap : Nat) (u : Value) (w : World) : Prop where
  r2 : RE2 N W ch a0 n cap 3 w
  clv : w.cell? ⟨N + 2, 0, none⟩ = some u
  frz : w.frozen? ⟨N + 2, 0, none⟩ = false

section
variable {N : Nat} {W : World} {ch : List Nat} {a0 : Option Addr} {n cap j : Nat} {u : Value} {w w₁ : World}
theorem RE.rely (h : RE N W ch j w) (r : RC ch w w₁) : RE N W ch j w₁ :=
  ⟨r.os.trans h.os, r.tape.trans h.tape, r.output.trans h.output, r.size.trans h.sz, fun b h1 h2 => (r.block b h2).trans (h.old b h1 h2), h.chN⟩
theorem RE.new (h : RE N W ch j w) (r : RC ch w w₁) {b : Nat} (hb : N ≤ b) : w₁.heap[b]? = w.heap[b]? := r.block b fun hc => by have := h.chN b hc; omega
theorem RE1.rely (h : RE1 N W ch a0 n cap j w) (r : RC ch w w₁) : RE1 N W ch a0 n cap j w₁ := ⟨h.re.rely r, (World.cell?_of_block (h.re.new r (b := N) (by omega))).trans h.bxv⟩
theorem RE2.rely (h : RE2 N W ch a0 n cap j w) (r : RC ch w w₁) : RE2 N W ch a0 n cap j w₁ :=
  let ⟨s, r', tm, hc⟩ := h.chn
  ⟨h.r1.rely r, s, r', tm, (h.r1.re.new r (b := N + 1) (by omega)).trans hc⟩
theorem RE3.rely (h : RE3 N W ch a0 n cap u w) (r : RC ch w w₁) : RE3 N W ch a0 n cap u w₁ := ⟨h.r2.rely r, (World.cell?_of_block (h.r2.r1.re.new r (b := N + 2) (by omega))).trans h.clv, (World.frozen?_of_block (h.r2.r1.re.new r (b := N + 2) (by omega))).trans h.frz⟩
theorem RE.alloc (h : RE N W ch j w) (o : Obj) : RE N W ch (j + 1) (w.alloc o) :=
  ⟨h.os, h.tape, h.output, by simp [h.sz]; omega, fun b h1 h2 => (Below.heap_alloc _ _ _ (by rw [h.sz]; omega)).trans (h.old b h1 h2), h.chN⟩
theorem RE.box (h : RE N W ch 0 w) (e : TypeId) : RE1 N W ch a0 n cap 1 (w.alloc (.cells #[.slice a0 n cap] e)) :=
  ⟨h.alloc _, by rw [World.cell?_alloc_at _ _ _ _ (by rw [h.sz]; rfl)]; rfl⟩
theorem RE1.chan (h : RE1 N W ch a0 n cap 1 w) (s r : Nat) (tm : Bool) : RE2 N W ch a0 n cap 2 (w.alloc (.chan 0 #[] false s r tm)) :=
  ⟨⟨h.re.alloc _, by rw [World.cell?_alloc_past _ _ _ (by rw [h.re.sz]; show N < N + 1; omega)]; exact h.bxv⟩, s, r, tm, by rw [← h.re.sz]; exact heap_alloc_new w _⟩
theorem RE2.var (h : RE2 N W ch a0 n cap 2 w) (u : Value) (e : TypeId) : RE3 N W ch a0 n cap u (w.alloc (.cells #[u] e)) :=
  let ⟨s, r', tm, hc⟩ := h.chn
  ⟨⟨⟨h.r1.re.alloc _, by rw [World.cell?_alloc_past _ _ _ (by rw [h.r1.re.sz]; show N < N + 2; omega)]; exact h.r1.bxv⟩, s, r', tm, by rw [Below.heap_alloc _ _ _ (by rw [h.r1.re.sz]; omega)]; exact hc⟩, by rw [World.cell?_alloc_at _ _ _ _ (by rw [h.r1.re.sz])]; rfl, World.frozen?_alloc_at _ _ _ _ (by rw [h.r1.re.sz])⟩
theorem RE3.set (h : RE3 N W ch a0 n cap u w) (v : Value) : RE3 N W ch a0 n cap v (w.setCell ⟨N + 2, 0, none⟩ v) :=
  let ⟨s, r', tm, hc⟩ := h.r2.chn
  have hb := fun (k : Nat) (hk : k ≠ N + 2) => Below.heap_setCell w ⟨N + 2, 0, none⟩ v k hk
  ⟨⟨⟨⟨h.r2.r1.re.os, h.r2.r1.re.tape, h.r2.r1.re.output, by simp [World.setCell, h.r2.r1.re.sz], fun b h1 h2 => (hb b (by omega)).trans (h.r2.r1.re.old b h1 h2), h.r2.r1.re.chN⟩, (World.cell?_of_block (hb N (by omega))).trans h.r2.r1.bxv⟩, s, r', tm, (hb (N + 1) (by omega)).trans hc⟩,
    World.cell?_setCell_same w ⟨N + 2, 0, none⟩ v h.clv, by rw [World.frozen?_setCell]; exact h.frz⟩
end


section
variable (N : Nat) (W : World) (ch : List Nat) (a0 : Option Addr) (n cap : Nat) (b0 : Option Addr) (m capb : Nat) (cs : List Frame)

noncomputable def go8 (u3 u4 u6 u7 u8 u9 u10 u11 u12 u13 u14 u15 u17 u18 u19 u20 u21 u22 u23 u24 u25 u26 u27 u28 u29 u30 u31 u32 u33 u34 u35 u36 u37 u38 : Value) (rest : List Nat) : Goroutine :=
  G ((base 8).at ⟨#[.slice a0 n cap, .slice b0 m capb, .pointer (some ⟨N, 0, none⟩), u3, u4, .pointer (some ⟨N + 2, 0, none⟩), u6, u7, u8, u9, u10, u11, u12, u13, u14, u15, .func (.func 19) #[] #[.pointer (some ⟨N + 2, 0, none⟩), .pointer (some ⟨N, 0, none⟩)], u17, u18, u19, u20, u21, u22, u23, u24, u25, u26, u27, u28, u29, u30, u31, u32, u33, u34, u35, u36, u37, u38], []⟩ [.inRegion ops8g rest, .code tail8b]) cs
noncomputable def entry8 : Goroutine := G ((base 8).at ⟨#[.slice a0 n cap, .slice b0 m capb, undef, undef, undef, undef, undef, undef, undef, undef, undef, undef, undef, undef, undef, undef, undef, undef, undef, undef, undef, undef, undef, undef, undef, undef, undef, undef, undef, undef, undef, undef, undef, undef, undef, undef, undef, undef, undef], []⟩ [.code body8]) cs

set_option maxRecDepth 100000 in
/-- From the entry to the first go statement. -/
theorem seg8_go (T : List Nat) (Stop : Goroutine → World → Prop) (n₀ : Nat) (hm64 : m ≤ 64) (hT : ∀ b ∈ T, b < N) (w : World) (hF : RE N W ch 0 w)
    (next : ∀ (u3 u4 u6 u7 u8 u9 u10 u11 u12 u13 u14 u15 u17 u18 u19 u20 u21 u22 u23 u24 u25 u26 u27 u28 u29 u30 u31 u32 u33 u34 u35 u36 u37 u38 : Value) w', RE3 N W ch a0 n cap (.chan (some (N + 1))) w' → Goes Try.prog true (RC ch) (DM T ch) Stop n₀ (go8 N a0 n cap b0 m capb cs u3 u4 u6 u7 u8 u9 u10 u11 u12 u13 u14 u15 u17 u18 u19 u20 u21 u22 u23 u24 u25 u26 u27 u28 u29 u30 u31 u32 u33 u34 u35 u36 u37 u38 [1]) w') : Goes Try.prog true (RC ch) (DM T ch) Stop (n₀ + 60) (entry8 a0 n cap b0 m capb cs) w := by
  have hTl : ∀ b ∈ T, b < 0 ∨ 0 = 0 := fun _ _ => .inr rfl
  have hcl : ∀ b ∈ ch, b < 0 ∨ 0 = 0 := fun _ _ => .inr rfl
  have hc2 : ∀ b ∈ ch, b < N := hF.chN
  have hg : ¬ ((64 : Int) < (m : Int)) := by omega
  simp only [entry8, go8, ops8g, tail8b, tail8a, body8, Try.f8, Option.getD_some] at next ⊢
  (refine Goes.step rfl (fun _ h₁ => ?_); walk_rw; refine ⟨DM_of_below (B := 0) hTl hcl (Below.refl _ _) (by simp), ?_⟩; replace hF := hF.rely h₁; clear h₁)
  (refine Goes.step rfl (fun _ h₁ => ?_); walk_rw; refine ⟨DM_of_below (B := 0) hTl hcl (Below.refl _ _) (by simp), ?_⟩; replace hF := hF.rely h₁; clear h₁)
  refine Goes.step rfl (fun w₁ h₁ => ?_)
  replace hF := hF.rely h₁
  clear h₁
  refine goes_oper_k rfl rfl (by decide) (fun K hK => ?_)
  go_simp
  refine hK _ _ ⟨DM_of_below' hT hc2 ((Below.refl _ _).alloc (by rw [hF.sz]; omega) _) (fun e he => ?_), ?_⟩
  · have hm := mem_listed he
    simp [go_sem] at hm
  clear hK K
  have esz := hF.sz
  replace hF := hF.box (a0 := a0) (n := n) (cap := cap) 22
  rw [esz, Nat.add_zero]
  clear esz
  (refine Goes.step rfl (fun w₁ h₁ => ?_); replace hF := hF.rely h₁; clear h₁; refine goes_oper_k rfl rfl (by decide) (fun K hK => ?_); go_simp; refine hK _ _ ⟨DM_of_below (B := 0) hTl hcl (Below.refl _ _) (fun e he => ?_), ?_⟩; (focus (have hm := mem_listed he; (simp [go_sem, *] at hm); (try (subst hm; exact evM_read _ _ (by simp))))); (clear hK K); (try walk_nrm))
  repeat (first | (refine Goes.step rfl (fun _ h₁ => ?_); walk_rw; refine ⟨DM_of_below (B := 0) hTl hcl (Below.refl _ _) (by simp), ?_⟩; replace hF := hF.rely h₁; clear h₁) | (refine Goes.step rfl (fun w₁ h₁ => ?_); replace hF := hF.rely h₁; clear h₁; refine goes_oper_k rfl rfl (by decide) (fun K hK => ?_); go_simp; refine hK _ _ ⟨DM_of_below (B := 0) hTl hcl (Below.refl _ _) (fun e he => ?_), ?_⟩; (focus (have hm := mem_listed he; (simp [go_sem, *] at hm); (try (subst hm; exact evM_read _ _ (by simp))))); (clear hK K); (try walk_nrm)))
  (refine Goes.step rfl (fun _ h₁ => ?_); rw [stepG_cond (t := false) rfl]; simp only [goes_go, if_true, if_false, Bool.false_eq_true, ↓reduceIte]; refine ⟨DM_of_below (B := 0) hTl hcl (Below.refl _ _) (by simp), ?_⟩; replace hF := hF.rely h₁; clear h₁)
  (refine Goes.step rfl (fun _ h₁ => ?_); walk_rw; refine ⟨DM_of_below (B := 0) hTl hcl (Below.refl _ _) (by simp), ?_⟩; replace hF := hF.rely h₁; clear h₁)
  (refine Goes.step rfl (fun _ h₁ => ?_); walk_rw; refine ⟨DM_of_below (B := 0) hTl hcl (Below.refl _ _) (by simp), ?_⟩; replace hF := hF.rely h₁; clear h₁)
  (refine Goes.step rfl (fun _ h₁ => ?_); walk_rw; refine ⟨DM_of_below (B := 0) hTl hcl (Below.refl _ _) (by simp), ?_⟩; replace hF := hF.rely h₁; clear h₁)
  refine Goes.step rfl (fun w₁ h₁ => ?_)
  replace hF := hF.rely h₁
  clear h₁
  refine goes_oper_k rfl rfl (by decide) (fun K hK => ?_)
  go_simp
  refine hK _ _ ⟨DM_of_below' hT hc2 ((Below.refl _ _).alloc (by rw [hF.re.sz]; omega) _) (fun e he => ?_), ?_⟩
  · have hm := mem_listed he
    simp [go_sem] at hm
  clear hK K
  have esz := hF.re.sz
  replace hF := hF.chan 0 0 false
  rw [esz]
  clear esz
  refine Goes.step rfl (fun w₁ h₁ => ?_)
  replace hF := hF.rely h₁
  clear h₁
  refine goes_oper_k rfl rfl (by decide) (fun K hK => ?_)
  go_simp
  refine hK _ _ ⟨DM_of_below' hT hc2 ((Below.refl _ _).alloc (by rw [hF.r1.re.sz]; omega) _) (fun e he => ?_), ?_⟩
  · have hm := mem_listed he
    simp [go_sem] at hm
  clear hK K
  have esz := hF.r1.re.sz
  replace hF := hF.var (.chan none) 33
  rw [esz]
  clear esz
  refine Goes.step rfl (fun w₁ h₁ => ?_)
  replace hF := hF.rely h₁
  clear h₁
  refine goes_oper_k rfl rfl (by decide) (fun K hK => ?_)
  have hx := hF.clv
  have hfz := hF.frz
  go_simp
  refine hK _ _ ⟨DM_of_below' hT hc2 ((Below.refl _ _).setCell (by show N ≤ N + 2; omega) _) (fun e he => ?_), ?_⟩
  · have hm := mem_listed he
    simp [go_sem, *] at hm
    subst hm
    exact evM_write _ _ fun h => by have := hT _ h; simp only at this; omega
  clear hK K hx hfz
  replace hF := hF.set (.chan (some (N + 1)))
  try walk_nrm
  (refine Goes.step rfl (fun _ h₁ => ?_); walk_rw; refine ⟨DM_of_below (B := 0) hTl hcl (Below.refl _ _) (by simp), ?_⟩; replace hF := hF.rely h₁; clear h₁)
  (refine Goes.step rfl (fun _ h₁ => ?_); walk_rw; refine ⟨DM_of_below (B := 0) hTl hcl (Below.refl _ _) (by simp), ?_⟩; replace hF := hF.rely h₁; clear h₁)
  (refine Goes.step rfl (fun _ h₁ => ?_); walk_rw; refine ⟨DM_of_below (B := 0) hTl hcl (Below.refl _ _) (by simp), ?_⟩; replace hF := hF.rely h₁; clear h₁)
  (refine Goes.step rfl (fun w₁ h₁ => ?_); replace hF := hF.rely h₁; clear h₁; refine goes_oper_k rfl rfl (by decide) (fun K hK => ?_); go_simp; refine hK _ _ ⟨DM_of_below (B := 0) hTl hcl (Below.refl _ _) (fun e he => ?_), ?_⟩; (focus (have hm := mem_listed he; (simp [go_sem, *] at hm); (try (subst hm; exact evM_read _ _ (by simp))))); (clear hK K); (try walk_nrm))
  refine Goes.mono (n := n₀) ?_ (by omega)
  exact next _ _ _ _ _ _ _ _ _ _ _ _ _ _ _ _ _ _ _ _ _ _ _ _ _ _ _ _ _ _ _ _ _ _ _ hF

/-- The values' block. -/
def vblk (a0 : Option Addr) (n : Nat) : List Nat := if 0 < n then (match a0 with | some ad => [ad.block] | none => []) else []
theorem vblk_mem {a0 : Option Addr} {n b : Nat} (h : b ∈ vblk a0 n) : ∃ ad, a0 = some ad ∧ 0 < n ∧ b = ad.block := by
  unfold vblk at h
  split at h
  · rename_i hn
    cases a0 with
    | none => cases h
    | some ad => exact ⟨ad, rfl, hn, by simpa using h⟩
  · cases h
theorem vblk_in {a0 : Option Addr} {n : Nat} (ad : Addr) (h : a0 = some ad) (hn : 0 < n) : ad.block ∈ vblk a0 n := by
  subst h; simp [vblk, hn]

/-- What the source reads. -/
def srcT (N : Nat) (a0 : Option Addr) (n : Nat) : List Nat := N :: (N + 2) :: vblk a0 n

/-- A go statement of a function literal. -/
theorem run_go_lit {P : Program} {a : Act} {o : Oper} {f : FuncId} {x : Operand} {cap : Array Value} (hop : o.op = .go { callee := .value x, args := #[], argTypes := #[] }) (hx : a.eval x = .func (.func f) #[] cap) (w : World) :
    (execOp a.eval o).run P w = .ok (.spawn { target := .fn (.func f) cap, args := #[] }) w ∧ (execOp a.eval o).events P w #[] = #[] := by
  constructor
  · unfold execOp
    simp [hop, resolve, Deferred.ofValue, hx]
  · unfold execOp
    simp [hop, resolve, Deferred.ofValue, hx]

set_option maxRecDepth 100000 in
/-- AT THE FIRST go STATEMENT. -/
theorem at8_go {Post : List Nat → List Nat → Goroutine → World → Prop} (T : List Nat) (hT : ∀ b ∈ T, b < N) (zs : List Int) (hn : n ≤ 9223372036854775807) (hz : zs.length = n) (hnil : 0 < n → ∃ ad, a0 = some ad)
    (ha : ∀ ad, a0 = some ad → 0 < n → ad.block < N ∧ ad.block ∉ ch) (al : List Do) (u3 u4 u6 u7 u8 u9 u10 u11 u12 u13 u14 u15 u17 u18 u19 u20 u21 u22 u23 u24 u25 u26 u27 u28 u29 u30 u31 u32 u33 u34 u35 u36 u37 u38 : Value) (w : World) (hF : RE3 N W ch a0 n cap (.chan (some (N + 1))) w)
    (hel : ∀ j ad, j < n → a0 = some ad → w.cell? (ad.add j) = some (.int .i64 (zs[j]?.getD 0)))
    (next : FollowM Try.prog zi Post al (srcT N a0 n ++ T) ((N + 1) :: ch) (go8 N a0 n cap b0 m capb cs u3 u4 u6 u7 u8 u9 u10 u11 u12 u13 u14 u15 u17 u18 u19 u20 u21 u22 u23 u24 u25 u26 u27 u28 u29 u30 u31 u32 u33 u34 u35 u36 u37 u38 []) w) :
    stopM Try.prog zi Post (.fork (srcT N a0 n) [N + 1] (src (N + 1) (zs.map iv)) :: al) T ch (go8 N a0 n cap b0 m capb cs u3 u4 u6 u7 u8 u9 u10 u11 u12 u13 u14 u15 u17 u18 u19 u20 u21 u22 u23 u24 u25 u26 u27 u28 u29 u30 u31 u32 u33 u34 u35 u36 u37 u38 [1]) w := by
  obtain ⟨hr, he⟩ := run_go_lit (P := Try.prog) (a := ⟨#[.slice a0 n cap, .slice b0 m capb, .pointer (some ⟨N, 0, none⟩), u3, u4, .pointer (some ⟨N + 2, 0, none⟩), u6, u7, u8, u9, u10, u11, u12, u13, u14, u15, .func (.func 19) #[] #[.pointer (some ⟨N + 2, 0, none⟩), .pointer (some ⟨N, 0, none⟩)], u17, u18, u19, u20, u21, u22, u23, u24, u25, u26, u27, u28, u29, u30, u31, u32, u33, u34, u35, u36, u37, u38], []⟩) (o := { dst := none, op := .go { callee := .value (.tmp 16), args := #[], argTypes := #[] }, type := 0, pos := "crew.go:69", after := #[{ on := 0, ground := .data }], guard := none }) (f := 19) (x := .tmp 16) (cap := #[.pointer (some ⟨N + 2, 0, none⟩), .pointer (some ⟨N, 0, none⟩)]) rfl (by simp [Act.eval]) w
  have hst : stepG Try.prog true (go8 N a0 n cap b0 m capb cs u3 u4 u6 u7 u8 u9 u10 u11 u12 u13 u14 u15 u17 u18 u19 u20 u21 u22 u23 u24 u25 u26 u27 u28 u29 u30 u31 u32 u33 u34 u35 u36 u37 u38 [1]) w = .spawn (go8 N a0 n cap b0 m capb cs u3 u4 u6 u7 u8 u9 u10 u11 u12 u13 u14 u15 u17 u18 u19 u20 u21 u22 u23 u24 u25 u26 u27 u28 u29 u30 u31 u32 u33 u34 u35 u36 u37 u38 []) (born Try.prog { target := .fn (.func 19) #[.pointer (some ⟨N + 2, 0, none⟩), .pointer (some ⟨N, 0, none⟩)], args := #[] }) w (listed Try.prog 8 ⟨#[.slice a0 n cap, .slice b0 m capb, .pointer (some ⟨N, 0, none⟩), u3, u4, .pointer (some ⟨N + 2, 0, none⟩), u6, u7, u8, u9, u10, u11, u12, u13, u14, u15, .func (.func 19) #[] #[.pointer (some ⟨N + 2, 0, none⟩), .pointer (some ⟨N, 0, none⟩)], u17, u18, u19, u20, u21, u22, u23, u24, u25, u26, u27, u28, u29, u30, u31, u32, u33, u34, u35, u36, u37, u38], []⟩ { dst := none, op := .go { callee := .value (.tmp 16), args := #[], argTypes := #[] }, type := 0, pos := "crew.go:69", after := #[{ on := 0, ground := .data }], guard := none } w) :=
    stepG_spawn (b := base 8) (ops := ops8g) (i := 1) (rest := []) (main := true) (k := [.code tail8b]) (cs := cs) rfl rfl (by decide) hr rfl
  have hl : listed Try.prog 8 ⟨#[.slice a0 n cap, .slice b0 m capb, .pointer (some ⟨N, 0, none⟩), u3, u4, .pointer (some ⟨N + 2, 0, none⟩), u6, u7, u8, u9, u10, u11, u12, u13, u14, u15, .func (.func 19) #[] #[.pointer (some ⟨N + 2, 0, none⟩), .pointer (some ⟨N, 0, none⟩)], u17, u18, u19, u20, u21, u22, u23, u24, u25, u26, u27, u28, u29, u30, u31, u32, u33, u34, u35, u36, u37, u38], []⟩ { dst := none, op := .go { callee := .value (.tmp 16), args := #[], argTypes := #[] }, type := 0, pos := "crew.go:69", after := #[{ on := 0, ground := .data }], guard := none } w = #[] := listed_nil he
  rw [hl] at hst
  have hchN := hF.r2.r1.re.chN
  have hS : SrcK (srcT N a0 n) N (N + 2) (N + 1) a0 n cap zs w := ⟨hF.r2.r1.bxv, hF.clv, hel, by simp [srcT], by simp [srcT], fun ad h0 hn => by simp only [srcT, List.mem_cons]; exact .inr (.inr (vblk_in ad h0 hn))⟩
  refine ⟨rfl, _, _, w, #[], hst, by simp, fun _ _ => rfl, fun _ _ => rfl, fun c hc => ?_, fun b hb => ?_, rfl, src_follows _ _ _ _ _ _ _ zs hn hz hnil w hS, next⟩
  · obtain rfl : c = N + 1 := by simpa using hc
    refine ⟨fun h => ?_, fun h => ?_, hF.r2.chn⟩
    · rcases List.mem_append.1 h with h | h
      · simp only [srcT, List.mem_cons] at h
        rcases h with h | h | h
        · omega
        · omega
        · obtain ⟨ad, h1, h2, h3⟩ := vblk_mem h
          have := (ha ad h1 h2).1; omega
      · have := hT _ h; omega
    · have := hchN _ h; omega
  · simp only [srcT, List.mem_cons] at hb
    intro h
    have h : b = N + 1 ∨ b ∈ ch := by simpa using h
    rcases hb with hb | hb | hb
    · rcases h with h | h
      · omega
      · have := hchN _ h; omega
    · rcases h with h | h
      · omega
      · have := hchN _ h; omega
    · obtain ⟨ad, h1, h2, h3⟩ := vblk_mem hb
      have := ha ad h1 h2
      rcases h with h | h
      · omega
      · exact this.2 (h3 ▸ h)

set_option maxRecDepth 100000 in
/-- From behind the first go statement to the first loop's head. -/
theorem seg8_one (ds : List Int) (T' ch' : List Nat) (Stop : Goroutine → World → Prop) (n₀ : Nat) (hcs : ∀ c ∈ ch', c ∈ ch ∨ c = N + 1 ∨ (N + 3 ≤ c ∧ c < N + 3 + 0)) (u3 u4 u6 u7 u8 u9 u10 u11 u12 u13 u14 u15 u17 u18 u19 u20 u21 u22 u23 u24 u25 u26 u27 u28 u29 u30 u31 u32 u33 u34 u35 u36 u37 u38 : Value) (w : World) (hF : RZ N W ch a0 n cap b0 m ds 0 w)
    (next : ∀ (u3 u4 u7 u8 u9 u10 u11 u12 u13 u14 u15 u16 u17 u21 u22 u23 u24 u25 u26 u27 u28 u29 u30 u31 u32 u33 u34 u35 u36 u37 u38 : Value) w', RZ N W ch a0 n cap b0 m ds 0 w' → Goes Try.prog true (RC ch') (DM T' ch') Stop n₀ (head8a N a0 n cap b0 m capb cs (N + 1) 0 u3 u4 u7 u8 u9 u10 u11 u12 u13 u14 u15 u16 u17 u21 u22 u23 u24 u25 u26 u27 u28 u29 u30 u31 u32 u33 u34 u35 u36 u37 u38) w') : Goes Try.prog true (RC ch') (DM T' ch') Stop (n₀ + 40) (go8 N a0 n cap b0 m capb cs u3 u4 u6 u7 u8 u9 u10 u11 u12 u13 u14 u15 u17 u18 u19 u20 u21 u22 u23 u24 u25 u26 u27 u28 u29 u30 u31 u32 u33 u34 u35 u36 u37 u38 []) w := by
  have hTl : ∀ b ∈ T', b < 0 ∨ 0 = 0 := fun _ _ => .inr rfl
  have hcl : ∀ b ∈ ch', b < 0 ∨ 0 = 0 := fun _ _ => .inr rfl
  simp only [head8a, go8, ops8g, L8a, rest8, tail8b, tail8a, body8, Try.f8, Option.getD_some] at next ⊢
  (refine Goes.step rfl (fun _ h₁ => ?_); walk_rw; refine ⟨DM_of_below (B := 0) hTl hcl (Below.refl _ _) (by simp), ?_⟩; replace hF := hF.rely hcs h₁; clear h₁)
  (refine Goes.step rfl (fun _ h₁ => ?_); walk_rw; refine ⟨DM_of_below (B := 0) hTl hcl (Below.refl _ _) (by simp), ?_⟩; replace hF := hF.rely hcs h₁; clear h₁)
  (refine Goes.step rfl (fun _ h₁ => ?_); walk_rw; refine ⟨DM_of_below (B := 0) hTl hcl (Below.refl _ _) (by simp), ?_⟩; replace hF := hF.rely hcs h₁; clear h₁)
  (refine Goes.step rfl (fun w₁ h₁ => ?_); replace hF := hF.rely hcs h₁; clear h₁; refine goes_oper_k rfl rfl (by decide) (fun K hK => ?_); have hx := hF.bxv; have hch := hF.clv; have hel := hF.adl; go_simp; refine hK _ _ ⟨DM_of_below (B := 0) hTl hcl (Below.refl _ _) (fun e he => ?_), ?_⟩; (focus (have hm := mem_listed he; (simp [go_sem, *] at hm); (try (subst hm; exact evM_read _ _ (by simp))))); (clear hK K hx hch hel); (try walk_nrm))
  (refine Goes.step rfl (fun w₁ h₁ => ?_); replace hF := hF.rely hcs h₁; clear h₁; refine goes_oper_k rfl rfl (by decide) (fun K hK => ?_); have hx := hF.bxv; have hch := hF.clv; have hel := hF.adl; go_simp; refine hK _ _ ⟨DM_of_below (B := 0) hTl hcl (Below.refl _ _) (fun e he => ?_), ?_⟩; (focus (have hm := mem_listed he; (simp [go_sem, *] at hm); (try (subst hm; exact evM_read _ _ (by simp))))); (clear hK K hx hch hel); (try walk_nrm))
  (refine Goes.step rfl (fun _ h₁ => ?_); walk_rw; refine ⟨DM_of_below (B := 0) hTl hcl (Below.refl _ _) (by simp), ?_⟩; replace hF := hF.rely hcs h₁; clear h₁)
  (refine Goes.step rfl (fun _ h₁ => ?_); walk_rw; refine ⟨DM_of_below (B := 0) hTl hcl (Below.refl _ _) (by simp), ?_⟩; replace hF := hF.rely hcs h₁; clear h₁)
  (refine Goes.step rfl (fun _ h₁ => ?_); walk_rw; refine ⟨DM_of_below (B := 0) hTl hcl (Below.refl _ _) (by simp), ?_⟩; replace hF := hF.rely hcs h₁; clear h₁)
  (refine Goes.step rfl (fun _ h₁ => ?_); walk_rw; refine ⟨DM_of_below (B := 0) hTl hcl (Below.refl _ _) (by simp), ?_⟩; replace hF := hF.rely hcs h₁; clear h₁)
  (refine Goes.step rfl (fun w₁ h₁ => ?_); replace hF := hF.rely hcs h₁; clear h₁; refine goes_oper_k rfl rfl (by decide) (fun K hK => ?_); have hx := hF.bxv; have hch := hF.clv; have hel := hF.adl; go_simp; refine hK _ _ ⟨DM_of_below (B := 0) hTl hcl (Below.refl _ _) (fun e he => ?_), ?_⟩; (focus (have hm := mem_listed he; (simp [go_sem, *] at hm); (try (subst hm; exact evM_read _ _ (by simp))))); (clear hK K hx hch hel); (try walk_nrm))
  (refine Goes.step rfl (fun w₁ h₁ => ?_); replace hF := hF.rely hcs h₁; clear h₁; refine goes_oper_k rfl rfl (by decide) (fun K hK => ?_); have hx := hF.bxv; have hch := hF.clv; have hel := hF.adl; go_simp; refine hK _ _ ⟨DM_of_below (B := 0) hTl hcl (Below.refl _ _) (fun e he => ?_), ?_⟩; (focus (have hm := mem_listed he; (simp [go_sem, *] at hm); (try (subst hm; exact evM_read _ _ (by simp))))); (clear hK K hx hch hel); (try walk_nrm))
  (refine Goes.step rfl (fun w₁ h₁ => ?_); replace hF := hF.rely hcs h₁; clear h₁; refine goes_oper_k rfl rfl (by decide) (fun K hK => ?_); have hx := hF.bxv; have hch := hF.clv; have hel := hF.adl; go_simp; refine hK _ _ ⟨DM_of_below (B := 0) hTl hcl (Below.refl _ _) (fun e he => ?_), ?_⟩; (focus (have hm := mem_listed he; (simp [go_sem, *] at hm); (try (subst hm; exact evM_read _ _ (by simp))))); (clear hK K hx hch hel); (try walk_nrm))
  (refine Goes.step rfl (fun _ h₁ => ?_); walk_rw; refine ⟨DM_of_below (B := 0) hTl hcl (Below.refl _ _) (by simp), ?_⟩; replace hF := hF.rely hcs h₁; clear h₁)
  (refine Goes.step rfl (fun _ h₁ => ?_); walk_rw; refine ⟨DM_of_below (B := 0) hTl hcl (Below.refl _ _) (by simp), ?_⟩; replace hF := hF.rely hcs h₁; clear h₁)
  (refine Goes.step rfl (fun _ h₁ => ?_); walk_rw; refine ⟨DM_of_below (B := 0) hTl hcl (Below.refl _ _) (by simp), ?_⟩; replace hF := hF.rely hcs h₁; clear h₁)
  refine Goes.mono (n := n₀) ?_ (by omega)
  exact next _ _ _ _ _ _ _ _ _ _ _ _ _ _ _ _ _ _ _ _ _ _ _ _ _ _ _ _ _ _ _ _ hF

/-- RELAY, from its entry: the row's whole script, and what is held at its return. -/
theorem relay_follows {Post : List Nat → List Nat → Goroutine → World → Prop} (T : List Nat) (hT : ∀ b ∈ T, b < N) (hch : ∀ c ∈ ch, c < N) (hm64 : m ≤ 64) (hN : W.heap.size = N)
    (zs ds : List Int) (hn : n * 8 ≤ 140737488355328) (hz : zs.length = n) (hd : ds.length = m) (hnila : 0 < n → ∃ ad, a0 = some ad) (hnilb : 0 < m → ∃ ad, b0 = some ad)
    (ha : ∀ ad, a0 = some ad → 0 < n → ad.block < N ∧ ad.block ∉ ch) (hb : ∀ ad, b0 = some ad → 0 < m → ad.block < N ∧ ad.block ∉ ch)
    (hela : ∀ j ad, j < n → a0 = some ad → W.cell? (ad.add j) = some (.int .i64 (zs[j]?.getD 0))) (helb : ∀ j ad, j < m → b0 = some ad → W.cell? (ad.add j) = some (.int .i64 (ds[j]?.getD 0)))
    (bC : Frame) (aC : Act) (opsC : Array Oper) (iC : Nat) (restC : List Nat) (kC : List Item) (csC : List Frame) (hcs0 : cs = bC.at aC (.inRegion opsC (iC :: restC) :: kC) :: csC)
    (hPost : ∀ out w, RK N W ch a0 n cap b0 m ds (N + 3 + m) out ((rowOut zs ds).map iv) w → Post (srcT N a0 n ++ T) (chL N ch m) (G (bC.at (aC.put ((opsC[iC]?).bind (·.dst)) out) (.inRegion opsC restC :: kC)) csC) w) :
    Goes Try.prog true (RC ch) (DM T ch) (stopM Try.prog zi Post (.fork (srcT N a0 n) [N + 1] (src (N + 1) (zs.map iv)) :: mains (N + 1) (zs.map iv) (lst N 0 ds)) T ch) (0 + 60) (entry8 a0 n cap b0 m capb cs) W := by
  refine seg8_go N W ch a0 n cap b0 m capb cs T _ 0 hm64 hT W ⟨rfl, rfl, rfl, hN, fun _ _ _ => rfl, hch⟩ fun u3 u4 u6 u7 u8 u9 u10 u11 u12 u13 u14 u15 u17 u18 u19 u20 u21 u22 u23 u24 u25 u26 u27 u28 u29 u30 u31 u32 u33 u34 u35 u36 u37 u38 w hF => Goes.stop fun w₁ h₁ => ?_
  have hF := hF.rely h₁
  have hel : ∀ (cc : Option Addr) (l : Nat) (es : List Int), (∀ ad, cc = some ad → 0 < l → ad.block < N ∧ ad.block ∉ ch) → (∀ j ad, j < l → cc = some ad → W.cell? (ad.add j) = some (.int .i64 (es[j]?.getD 0))) → ∀ j ad, j < l → cc = some ad → w₁.cell? (ad.add j) = some (.int .i64 (es[j]?.getD 0)) := by
    intro cc l es h1 h2 j ad hj hc
    obtain ⟨h3, h4⟩ := h1 ad hc (by omega)
    exact (World.cell?_of_block (by rw [addBlock]; exact hF.r2.r1.re.old _ h3 h4)).trans (h2 j ad hj hc)
  refine at8_go N W ch a0 n cap b0 m capb cs T hT zs (by omega) hz hnila ha _ u3 u4 u6 u7 u8 u9 u10 u11 u12 u13 u14 u15 u17 u18 u19 u20 u21 u22 u23 u24 u25 u26 u27 u28 u29 u30 u31 u32 u33 u34 u35 u36 u37 u38 w₁ hF (hel a0 n zs ha hela) ?_
  have hZ : RZ N W ch a0 n cap b0 m ds 0 w₁ := ⟨⟨hF.r2.r1.re.os, hF.r2.r1.re.tape, hF.r2.r1.re.output, by omega, by rw [hF.r2.r1.re.sz]; omega, hF.r2.r1.re.old, hF.r2.r1.bxv, hF.clv, hch, hb, hel b0 m ds hb helb, World.ownsRow_nil _ _ _ _⟩, hF.r2.r1.re.sz⟩
  have hTT : ∀ b ∈ srcT N a0 n ++ T, b < N + 3 := by
    intro b hb'
    rcases List.mem_append.1 hb' with h | h
    · simp only [srcT, List.mem_cons] at h
      rcases h with h | h | h
      · omega
      · omega
      · obtain ⟨ad, h1, h2, h3⟩ := vblk_mem h
        have := (ha ad h1 h2).1; omega
    · have := hT _ h; omega
  obtain ⟨n₁, h₂⟩ := loop8a N W ch a0 n cap b0 m capb ds cs (Post := Post) (srcT N a0 n ++ T) hTT hm64 hnilb bC aC opsC iC restC kC csC hcs0 (rowOut zs ds) hPost ds 0 zs rfl (by omega) rfl (by omega)
  exact followM_iff.2 ⟨n₁ + 40, seg8_one N W ch a0 n cap b0 m capb cs ds (srcT N a0 n ++ T) (chL N ch 0) _ n₁ (fun c hc => chL_mem hc) u3 u4 u6 u7 u8 u9 u10 u11 u12 u13 u14 u15 u17 u18 u19 u20 u21 u22 u23 u24 u25 u26 u27 u28 u29 u30 u31 u32 u33 u34 u35 u36 u37 u38 w₁ hZ fun u3 u4 u7 u8 u9 u10 u11 u12 u13 u14 u15 u16 u17 u21 u22 u23 u24 u25 u26 u27 u28 u29 u30 u31 u32 u33 u34 u35 u36 u37 u38 w' hF => h₂ u3 u4 u7 u8 u9 u10 u11 u12 u13 u14 u15 u16 u17 u21 u22 u23 u24 u25 u26 u27 u28 u29 u30 u31 u32 u33 u34 u35 u36 u37 u38 w' hF⟩
end
end Go.Proofs.Ytplndihadjfliaa.Net
