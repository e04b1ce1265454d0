/-
  CREW: the walk of CrewRelay: its beginning, its end, the whole.
-/
import Derived.Test.YtplndihadjfliaaM7
set_option linter.unusedSimpArgs false
set_option linter.unusedVariables false
set_option maxHeartbeats 2000000
namespace Go.Proofs.Ytplndihadjfliaa.Net
open Go Go.Conc Go.ConcN Go.Proofs Go.RowKit

theorem nd_ne : ∀ {l : List Value} (h : (l.filterMap Value.ownBlock).Nodup) {i j : Nat} (hij : i < j) {x y : Value}, l[i]? = some x → l[j]? = some y → ∀ k, x.ownBlock = some k → y.ownBlock ≠ some k
  | [], _, _, _, _, _, _, h1, _, _, _ => by cases h1
  | z :: l, h, 0, j + 1, _, x, y, h1, h2, k, hk => by
    cases h1
    intro hy
    simp only [List.filterMap_cons, hk, List.nodup_cons] at h
    exact h.1 (List.mem_filterMap.2 ⟨y, List.mem_of_getElem? (by simpa using h2), hy⟩)
  | z :: l, h, i + 1, j + 1, hij, x, y, h1, h2, k, hk => by
    have h' : (l.filterMap Value.ownBlock).Nodup := by
      cases hz : z.ownBlock <;> simp only [List.filterMap_cons, hz, List.nodup_cons] at h
      · exact h
      · exact h.2
    exact nd_ne h' (i := i) (j := j) (by omega) (by simpa using h1) (by simpa using h2) k hk
  | z :: l, _, i, 0, hij, _, _, _, _, _, _ => by omega

/-- What is left to know at the end. -/
structure SE (W : World) (ch : List Nat) (vv ww : Value) (zs ds : List Int) (w : World) : Prop where
  below : Below W.heap.size W w
  chb : ∀ c ∈ ch, W.heap.size ≤ c
  rv : Row3 [] ch W.heap.size vv zs.length (zs.map iv) w
  rd : Row3 [] ch W.heap.size ww ds.length (ds.map iv) w
section
variable {W : World} {T ch : List Nat} {want vv ww : Value} {zs ds ref : List Int} {ans : List Value} {w w₁ : World}
theorem SE.rely (h : SE W ch vv ww zs ds w) (r : RC ch w w₁) : SE W ch vv ww zs ds w₁ :=
  ⟨⟨r.os.trans h.below.os, r.tape.trans h.below.tape, r.output.trans h.below.output, by rw [r.size]; exact h.below.size, fun b hb => (r.block b fun hc => by have := h.chb b hc; omega).trans (h.below.block b hb)⟩, h.chb, h.rv.rely r, h.rd.rely r⟩
theorem SR.se (h : SR W T ch want vv ww zs ds ref ans w) : SE W ch vv ww zs ds w := ⟨h.below, fun c hc => (h.chb c hc).1, h.rv, h.rd⟩
theorem SE.grows {o : Value} {n : Nat} {ys : List Value} {w0 : World} (h : SE W ch vv ww zs ds w) (g : Grows ch o.ownBlock w w₁) (ho : ∀ k, o.ownBlock = some k → W.heap.size ≤ k) (hv : ∀ k, o.ownBlock = some k → vv.ownBlock ≠ some k) (hd : ∀ k, o.ownBlock = some k → ww.ownBlock ≠ some k) : SE W ch vv ww zs ds w₁ :=
  have hs := h.below.size
  ⟨⟨g.os.trans h.below.os, g.tape.trans h.below.tape, g.output.trans h.below.output, by have := g.size; omega, fun b hb => (g.block b (by omega) (fun hc => by have := h.chb b hc; omega) (fun e => by have := ho b e.symm; omega)).trans (h.below.block b hb)⟩, h.chb,
    h.rv.grows g (fun k hk e => hv k e.symm hk), h.rd.grows g (fun k hk e => hd k e.symm hk)⟩
theorem SE.ir {a0 : Option Addr} {n : Nat} {xs : List Int} (h : SE W ch vv ww zs ds w) (i : IR [] a0 n xs W) : IR ch a0 n xs w :=
  ⟨i.len, i.max, i.ex, fun a ha hn hc => by
    have hc0 := i.cell 0 a hn ha
    have hlt := World.block_lt_of_cell? W _ hc0
    rw [addBlock] at hlt
    have := h.chb _ hc; omega,
  fun j a hj ha => by
    have hc0 := i.cell j a hj ha
    have hlt := World.block_lt_of_cell? W _ hc0
    rw [addBlock] at hlt
    exact (h.below.cell (by rw [addBlock]; exact hlt)).trans hc0⟩
end


section
variable (W : World) (a0 : Option Addr) (n cap : Nat) (b0 : Option Addr) (m capb : Nat) (zs ds : List Int) {ref : List Int}

set_option maxRecDepth 100000 in
theorem cr_start (hA : IR [] a0 n zs W) (hB : IR [] b0 m ds W) (hca : a0 = none → cap = 0) (hcb : b0 = none → capb = 0) (hn8 : n * 8 ≤ 140737488355328) (hm8 : m * 8 ≤ 140737488355328) :
    FollowM Try.prog zi (P0 W a0 n cap b0 m capb zs ds (refOut zs ds)) [] [] [] (G ((base 4).at ⟨#[.slice a0 n cap, .slice b0 m capb, undef, undef, undef, undef, undef, undef, undef, undef, undef, undef, undef, undef, undef, undef, undef, undef, undef, undef, undef, undef, undef, undef, undef, undef, undef, undef, undef, undef, undef, undef, undef, undef, undef, undef, undef, undef, undef, undef, undef, undef, undef, undef], []⟩ [.code body4]) []) W := by
  obtain ⟨Qr, href⟩ := ref_c [] [] n m
  obtain ⟨q, hq⟩ : ∃ q, q = 0 := ⟨0, rfl⟩
  have hTl : ∀ b ∈ ([] : List Nat), b < 0 ∨ 0 = 0 := fun _ _ => .inr rfl
  have hcl : ∀ b ∈ ([] : List Nat), b < 0 ∨ 0 = 0 := fun _ _ => .inr rfl
  have hk : (base 4).kind ≠ .early := by decide
  have hF : SS W [] W := ⟨Below.refl _ _, by simp, by simp⟩
  refine followM_iff.2 ⟨q + 5 * ((Qr + 30) + 100), ?_⟩
  generalize hQ : Qr + 30 = Q
  simp only [body4, Try.f4, Option.getD_some]
  (refine Goes.mono (n := (q + 4 * (Q + 100) + Qr + 3) + 80) ?_ (by omega))
  repeat (first | (refine Goes.step rfl (fun _ h₁ => ?_); walk_rw; refine ⟨DM_of_below (B := 0) hTl hcl (Below.refl _ _) (by simp), ?_⟩; replace hF := (SS.rely hF) h₁; clear h₁) | (refine Goes.step rfl (fun w₁ h₁ => ?_); replace hF := (SS.rely hF) h₁; clear h₁; refine goes_oper_k rfl rfl hk (fun K hK => ?_); skip; go_simp; refine hK _ _ ⟨DM_of_below (B := 0) hTl hcl (Below.refl _ _) (fun e he => ?_), ?_⟩; (focus (have hm := mem_listed he; (simp [go_sem, *] at hm); (try (subst hm; exact evM_read _ _ (by simp))))); (clear hK K); (try walk_nrm)))
  (refine Goes.mono (n := q + 4 * (Q + 100) + Qr + 3) ?_ (by omega); refine Goes.call (termsM _ _) rfl rfl hk rfl (nf := Qr) (by (simp only [List.map_toArray, List.map_cons, List.map_nil, Act.eval, Array.getD_eq_getD_getElem?, List.getElem?_toArray, List.getElem?_cons_succ, List.getElem?_cons_zero, Option.getD_some]); exact href a0 b0 cap capb zs ds _ (hF.ir hA) (hF.ir hB) hn8 (by simp) (by simp)) ?_)
  intro want w' hK
  replace hF := hF.add hK
  clear hK
  try walk_nrm
  (refine Goes.mono (n := (q + 3 * (Q + 100) + 30 + 3) + 80) ?_ (by omega))
  repeat (first | (refine Goes.step rfl (fun _ h₁ => ?_); walk_rw; refine ⟨DM_of_below (B := 0) hTl hcl (Below.refl _ _) (by simp), ?_⟩; replace hF := (SS.rely hF) h₁; clear h₁) | (refine Goes.step rfl (fun w₁ h₁ => ?_); replace hF := (SS.rely hF) h₁; clear h₁; refine goes_oper_k rfl rfl hk (fun K hK => ?_); skip; go_simp; refine hK _ _ ⟨DM_of_below (B := 0) hTl hcl (Below.refl _ _) (fun e he => ?_), ?_⟩; (focus (have hm := mem_listed he; (simp [go_sem, *] at hm); (try (subst hm; exact evM_read _ _ (by simp))))); (clear hK K); (try walk_nrm)))
  (refine Goes.mono (n := q + 3 * (Q + 100) + 30 + 3) ?_ (by omega); refine Goes.call (termsM _ _) rfl rfl hk rfl (nf := 30) (by (simp only [List.map_toArray, List.map_cons, List.map_nil, Act.eval, Array.getD_eq_getD_getElem?, List.getElem?_toArray, List.getElem?_cons_succ, List.getElem?_cons_zero, Option.getD_some]); exact ints_c [] [] (hF.ir hA) hca hn8 (by simp) (by simp)) ?_)
  intro vv w' hK
  replace hF := hF.add hK
  clear hK
  try walk_nrm
  (refine Goes.mono (n := (q + 2 * (Q + 100) + 30 + 3) + 80) ?_ (by omega))
  repeat (first | (refine Goes.step rfl (fun _ h₁ => ?_); walk_rw; refine ⟨DM_of_below (B := 0) hTl hcl (Below.refl _ _) (by simp), ?_⟩; replace hF := (SS.rely hF) h₁; clear h₁) | (refine Goes.step rfl (fun w₁ h₁ => ?_); replace hF := (SS.rely hF) h₁; clear h₁; refine goes_oper_k rfl rfl hk (fun K hK => ?_); skip; go_simp; refine hK _ _ ⟨DM_of_below (B := 0) hTl hcl (Below.refl _ _) (fun e he => ?_), ?_⟩; (focus (have hm := mem_listed he; (simp [go_sem, *] at hm); (try (subst hm; exact evM_read _ _ (by simp))))); (clear hK K); (try walk_nrm)))
  (refine Goes.mono (n := q + 2 * (Q + 100) + 30 + 3) ?_ (by omega); refine Goes.call (termsM _ _) rfl rfl hk rfl (nf := 30) (by (simp only [List.map_toArray, List.map_cons, List.map_nil, Act.eval, Array.getD_eq_getD_getElem?, List.getElem?_toArray, List.getElem?_cons_succ, List.getElem?_cons_zero, Option.getD_some]); exact ints_c [] [] (hF.ir hB) hcb hm8 (by simp) (by simp)) ?_)
  intro ww w' hK
  replace hF := hF.add hK
  clear hK
  try walk_nrm
  refine Goes.mono (n := q + 80) ?_ (by omega)
  repeat (first | (refine Goes.step rfl (fun _ h₁ => ?_); walk_rw; refine ⟨DM_of_below (B := 0) hTl hcl (Below.refl _ _) (by simp), ?_⟩; replace hF := (SS.rely hF) h₁; clear h₁) | (refine Goes.step rfl (fun w₁ h₁ => ?_); replace hF := (SS.rely hF) h₁; clear h₁; refine goes_oper_k rfl rfl hk (fun K hK => ?_); skip; go_simp; refine hK _ _ ⟨DM_of_below (B := 0) hTl hcl (Below.refl _ _) (fun e he => ?_), ?_⟩; (focus (have hm := mem_listed he; (simp [go_sem, *] at hm); (try (subst hm; exact evM_read _ _ (by simp))))); (clear hK K); (try walk_nrm)))
  exact Goes.stop fun w₁ h₁ => ⟨rfl, want, vv, ww, _, _, _, _, _, _, _, _, _, _, _, _, _, _, _, _, _, _, _, _, _, _, _, _, _, _, _, _, _, _, _, _, _, _, _, _, (hF.rely h₁).sr, rfl⟩

set_option maxRecDepth 100000 in
theorem cr_end (hA : IR [] a0 zs.length zs W) (hB : IR [] b0 ds.length ds W) (hn8 : (ref.length + 40) * 8 ≤ 140737488355328) (T ch : List Nat) (g : Goroutine) (w : World) (h : AtEnd (P3 W a0 zs.length cap b0 ds.length capb zs ds ref) T ch g w) :
    FollowM Try.prog zi (AtRet Try.prog fun v w' => v = .bool true ∧ Below W.heap.size W w') [] T ch g w := by
  obtain ⟨_, want, vv, ww, o1, o2, o3, u2, u3, u4, u10, u11, u12, u13, u14, u15, u16, u17, u18, u19, u20, u21, u22, u23, u24, u25, u26, u28, u29, u30, u31, u32, u33, u34, u35, u36, u37, u38, u39, u40, u41, u42, u43, hF, rfl⟩ := h
  obtain ⟨qt, hthree⟩ := three_c T ch ref.length
  obtain ⟨qv, hsv⟩ := same_c T ch zs.length
  obtain ⟨qw, hsw⟩ := same_c T ch ds.length
  obtain ⟨q, hq⟩ : ∃ q, q = 0 := ⟨0, rfl⟩
  have hTl : ∀ b ∈ T, b < 0 ∨ 0 = 0 := fun _ _ => .inr rfl
  have hcl : ∀ b ∈ ch, b < 0 ∨ 0 = 0 := fun _ _ => .inr rfl
  have hk : (base 4).kind ≠ .early := by decide
  obtain ⟨dd, cd, rfl, _⟩ := own_slice hF.rw0.own
  obtain ⟨va, vc, rfl, _⟩ := own_slice hF.rv.own
  obtain ⟨wa, wc, rfl, _⟩ := own_slice hF.rd.own
  obtain ⟨x1, c1, rfl, _⟩ := own_slice (hF.ra o1 (by simp)).own
  obtain ⟨x2, c2, rfl, _⟩ := own_slice (hF.ra o2 (by simp)).own
  obtain ⟨x3, c3, rfl, _⟩ := own_slice (hF.ra o3 (by simp)).own
  have nd := hF.nd
  refine followM_iff.2 ⟨q + 5 * ((qt + qv + qw) + 100), ?_⟩
  generalize hQ : qt + qv + qw = Q
  simp only [ops46, t46, t45, t44, body4, Try.f4, Option.getD_some]
  (refine Goes.mono (n := (q + 4 * (Q + 100) + qt + 3) + 80) ?_ (by omega))
  repeat (first | (refine Goes.step rfl (fun _ h₁ => ?_); walk_rw; refine ⟨DM_of_below (B := 0) hTl hcl (Below.refl _ _) (by simp), ?_⟩; replace hF := (SR.rely hF) h₁; clear h₁) | (refine Goes.step rfl (fun w₁ h₁ => ?_); replace hF := (SR.rely hF) h₁; clear h₁; refine goes_oper_k rfl rfl hk (fun K hK => ?_); skip; go_simp; refine hK _ _ ⟨DM_of_below (B := 0) hTl hcl (Below.refl _ _) (fun e he => ?_), ?_⟩; (focus (have hm := mem_listed he; (simp [go_sem, *] at hm); (try (subst hm; exact evM_read _ _ (by simp))))); (clear hK K); (try walk_nrm)))
  have hS := hF
  have hsz := hS.below.size
  have hcall := hthree x1 x2 x3 dd c1 c2 c3 cd W.heap.size W.heap.size W.heap.size W.heap.size ref _ hn8 hS.tb (fun c hc => (hS.chb c hc).2) (hS.ra _ (by simp)) (hS.ra _ (by simp)) (hS.ra _ (by simp)) hS.rw0 hsz hsz
    (fun k hk => ⟨nd_ne nd (i := 3) (j := 4) (by omega) rfl rfl k hk, nd_ne nd (i := 3) (j := 5) (by omega) rfl rfl k hk, fun h => nd_ne nd (i := 0) (j := 3) (by omega) rfl rfl k h hk⟩)
    (fun k hk => ⟨fun h => nd_ne nd (i := 4) (j := 5) (by omega) rfl rfl k h hk, fun h => nd_ne nd (i := 0) (j := 5) (by omega) rfl rfl k h hk⟩)
  (refine Goes.mono (n := q + 4 * (Q + 100) + qt + 3) ?_ (by omega); refine Goes.call (termsM _ _) rfl rfl hk rfl (nf := qt) (by (simp only [List.map_toArray, List.map_cons, List.map_nil, Act.eval, Array.getD_eq_getD_getElem?, List.getElem?_toArray, List.getElem?_cons_succ, List.getElem?_cons_zero, Option.getD_some]); exact hcall) ?_)
  rintro _ w' ⟨rfl, w1, w2, hr, g1, g2⟩
  have hE1 := (hS.se.rely hr).grows (o := .slice x1 ref.length c1) (n := 0) (ys := []) (w0 := W) g1 (fun k hk => ((hS.ra _ (by simp)).own.lt k hk).1) (fun k hk h => nd_ne nd (i := 1) (j := 3) (by omega) rfl rfl k h hk) (fun k hk h => nd_ne nd (i := 2) (j := 3) (by omega) rfl rfl k h hk)
  have hE2 := hE1.grows (o := .slice x3 ref.length c3) (n := 0) (ys := []) (w0 := W) g2 (fun k hk => ((hS.ra (.slice x3 ref.length c3) (by simp)).own.lt k hk).1) (fun k hk h => nd_ne nd (i := 1) (j := 5) (by omega) rfl rfl k h hk) (fun k hk h => nd_ne nd (i := 2) (j := 5) (by omega) rfl rfl k h hk)
  clear hF hr g1 g2 hE1
  have hF := hE2
  clear hE2
  try walk_nrm
  (refine Goes.mono (n := (q + 3 * (Q + 100) + qv + 3) + 80) ?_ (by omega))
  repeat (first | (refine Goes.step rfl (fun _ h₁ => ?_); walk_rw; refine ⟨DM_of_below (B := 0) hTl hcl (Below.refl _ _) (by simp), ?_⟩; replace hF := (SE.rely hF) h₁; clear h₁) | (refine Goes.step rfl (fun w₁ h₁ => ?_); replace hF := (SE.rely hF) h₁; clear h₁; refine goes_oper_k rfl rfl hk (fun K hK => ?_); skip; go_simp; refine hK _ _ ⟨DM_of_below (B := 0) hTl hcl (Below.refl _ _) (fun e he => ?_), ?_⟩; (focus (have hm := mem_listed he; (simp [go_sem, *] at hm); (try (subst hm; exact evM_read _ _ (by simp))))); (clear hK K); (try walk_nrm)))
  (refine Goes.mono (n := q + 3 * (Q + 100) + qv + 3) ?_ (by omega); refine Goes.call (termsM _ _) rfl rfl hk rfl (nf := qv) (by (simp only [List.map_toArray, List.map_cons, List.map_nil, Act.eval, Array.getD_eq_getD_getElem?, List.getElem?_toArray, List.getElem?_cons_succ, List.getElem?_cons_zero, Option.getD_some]); exact hsv va a0 vc cap zs _ (hF.rv.ir hA.max) (hF.ir hA)) ?_)
  rintro _ w' ⟨rfl, hr⟩
  replace hF := SE.rely hF hr
  clear hr
  try walk_nrm
  (refine Goes.mono (n := (q + 2 * (Q + 100) + qw + 3) + 80) ?_ (by omega))
  repeat (first | (refine Goes.step rfl (fun _ h₁ => ?_); walk_rw; refine ⟨DM_of_below (B := 0) hTl hcl (Below.refl _ _) (by simp), ?_⟩; replace hF := (SE.rely hF) h₁; clear h₁) | (refine Goes.step rfl (fun w₁ h₁ => ?_); replace hF := (SE.rely hF) h₁; clear h₁; refine goes_oper_k rfl rfl hk (fun K hK => ?_); skip; go_simp; refine hK _ _ ⟨DM_of_below (B := 0) hTl hcl (Below.refl _ _) (fun e he => ?_), ?_⟩; (focus (have hm := mem_listed he; (simp [go_sem, *] at hm); (try (subst hm; exact evM_read _ _ (by simp))))); (clear hK K); (try walk_nrm)))
  (refine Goes.mono (n := q + 2 * (Q + 100) + qw + 3) ?_ (by omega); refine Goes.call (termsM _ _) rfl rfl hk rfl (nf := qw) (by (simp only [List.map_toArray, List.map_cons, List.map_nil, Act.eval, Array.getD_eq_getD_getElem?, List.getElem?_toArray, List.getElem?_cons_succ, List.getElem?_cons_zero, Option.getD_some]); exact hsw wa b0 wc capb ds _ (hF.rd.ir hB.max) (hF.ir hB)) ?_)
  rintro _ w' ⟨rfl, hr⟩
  replace hF := SE.rely hF hr
  clear hr
  try walk_nrm
  refine Goes.mono (n := q + 80) ?_ (by omega)
  repeat (first | (refine Goes.step rfl (fun _ h₁ => ?_); walk_rw; refine ⟨DM_of_below (B := 0) hTl hcl (Below.refl _ _) (by simp), ?_⟩; replace hF := (SE.rely hF) h₁; clear h₁) | (refine Goes.step rfl (fun w₁ h₁ => ?_); replace hF := (SE.rely hF) h₁; clear h₁; refine goes_oper_k rfl rfl hk (fun K hK => ?_); skip; go_simp; refine hK _ _ ⟨DM_of_below (B := 0) hTl hcl (Below.refl _ _) (fun e he => ?_), ?_⟩; (focus (have hm := mem_listed he; (simp [go_sem, *] at hm); (try (subst hm; exact evM_read _ _ (by simp))))); (clear hK K); (try walk_nrm)))
  refine Goes.stop fun w₂ h₂ => ⟨rfl, .bool true, #[], ?_, by simp, rfl, (hF.rely h₂).below⟩
  simp [G, stepG, unwind, doReturn, results, Frame.at, base, Try.func4, Try.f4, seen, GStep.after]
end

theorem cr_enter (a0 b0 : Option Addr) (n cap m capb : Nat) : Frame.enter Try.prog 4 #[.slice a0 n cap, .slice b0 m capb] .normal = (base 4).at ⟨#[.slice a0 n cap, .slice b0 m capb, undef, undef, undef, undef, undef, undef, undef, undef, undef, undef, undef, undef, undef, undef, undef, undef, undef, undef, undef, undef, undef, undef, undef, undef, undef, undef, undef, undef, undef, undef, undef, undef, undef, undef, undef, undef, undef, undef, undef, undef, undef, undef], []⟩ [.code body4] := by
  rw [enter_at (c := body4) _ Try.func4 (by simp [Try.f4, body4])]
  have e : (#[.slice a0 n cap, .slice b0 m capb] : Array Value) ++ Array.replicate (Try.f4.ntmps - (#[.slice a0 n cap, .slice b0 m capb] : Array Value).size) undef = #[.slice a0 n cap, .slice b0 m capb, undef, undef, undef, undef, undef, undef, undef, undef, undef, undef, undef, undef, undef, undef, undef, undef, undef, undef, undef, undef, undef, undef, undef, undef, undef, undef, undef, undef, undef, undef, undef, undef, undef, undef, undef, undef, undef, undef, undef, undef, undef, undef] := by simp only [Try.f4]; walk_nrm
  rw [e]

/-- ONE GOOD RUN from every start. -/
theorem cr_runs (W : World) (a0 b0 : Option Addr) (cap capb : Nat) (zs ds : List Int) (hA : IR [] a0 zs.length zs W) (hB : IR [] b0 ds.length ds W) (hca : a0 = none → cap = 0) (hcb : b0 = none → capb = 0) (hn8 : (zs.length + 40) * 8 ≤ 140737488355328) (hm8 : ds.length * 8 ≤ 140737488355328) (hz : ∀ x ∈ zs, (Lit.int .i64 x).wf = true) :
    ∃ M last o w' t', runNT Try.prog (M + 1) (solo (G (Frame.enter Try.prog 4 #[.slice a0 zs.length cap, .slice b0 ds.length capb] .normal) []) W) #[] = (.ended o w', t') ∧ runN Try.prog M (solo (G (Frame.enter Try.prog 4 #[.slice a0 zs.length cap, .slice b0 ds.length capb] .normal) []) W) = .next last ∧
      step Try.prog last = .ended o w' ∧ Go.Conc.Good Try.prog (fun v w' => v = .bool true ∧ Below W.heap.size W w') last o w' t' := by
  rw [cr_enter]
  have h0 := came_start (cr_start W a0 zs.length cap b0 ds.length capb zs ds hA hB hca hcb (by omega) hm8)
  have hl : (refOut zs ds).length ≤ zs.length := by unfold refOut; split <;> simp
  have hend := cr_end W a0 cap b0 capb zs ds (ref := refOut zs ds) hA hB (by omega)
  by_cases h64 : ds.length ≤ 64
  · have hr := rowOut_ref hz h64
    exact ((((h0.row (row1 W a0 _ cap b0 _ capb zs ds _ h64 (by omega) hr)).row (row2 W a0 _ cap b0 _ capb zs ds _ h64 (by omega) hr)).row (row3 W a0 _ cap b0 _ capb zs ds _ h64 (by omega) hr)).walk hend).good
  · have hr : refOut zs ds = [] := by unfold refOut; rw [if_pos (by omega)]
    exact ((((h0.walk (nil1 W a0 _ cap b0 _ capb zs ds _ (by omega) hr)).walk (nil2 W a0 _ cap b0 _ capb zs ds _ (by omega) hr)).walk (nil3 W a0 _ cap b0 _ capb zs ds _ (by omega) hr)).walk hend).good
end Go.Proofs.Ytplndihadjfliaa.Net
