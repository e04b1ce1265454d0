/-
  CREW: CrewMerge's end: the parts are as they were.
-/
import Derived.Test.YtplndihadjfliaaM18
set_option linter.unusedSimpArgs false
set_option linter.unusedVariables false
set_option maxHeartbeats 2000000
namespace Go.Proofs.Ytplndihadjfliaa.Mix
open Go Go.Conc Go.ConcN Go.Proofs Go.RowKit

section
variable {ch : List Nat} {but : Option Nat} {w w₁ : World} {a0 : Option Addr} {n : Nat} {xs : List Int} {pA : Option Addr} {M : Nat} {pa : Nat → Option Addr} {pn pc : Nat → Nat} {zs : Nat → List Int}
theorem IR.growsB (h : IR ch a0 n xs w) (g : Grows ch but w w₁) (hb : ∀ ad, a0 = some ad → 0 < n → some ad.block ≠ but) : IR ch a0 n xs w₁ :=
  ⟨h.len, h.max, h.ex, h.nch, fun j a hj ha => by
    have hc := h.cell j a hj ha
    have hlt := lt_of_cell hc
    rw [addBlock] at hlt
    exact (World.cell?_of_block (by rw [addBlock]; exact g.block _ hlt (h.nch a ha (by omega)) (hb a ha (by omega)))).trans hc⟩
theorem PR.growsB (h : PR ch pA M pa pn pc zs w) (g : Grows ch but w w₁) (hb : ∀ ad, pA = some ad → 0 < M → some ad.block ≠ but) (hb2 : ∀ p, p < M → ∀ ad, pa p = some ad → 0 < pn p → some ad.block ≠ but) : PR ch pA M pa pn pc zs w₁ :=
  ⟨h.max, h.ex, h.nch, fun p ad hp ha => by
    have hc := h.pv p ad hp ha
    have hlt := lt_of_cell hc
    rw [addBlock] at hlt
    exact (World.cell?_of_block (by rw [addBlock]; exact g.block _ hlt (h.nch ad ha (by omega)) (hb ad ha (by omega)))).trans hc, fun p hp => (h.ir p hp).growsB g (hb2 p hp)⟩
end

/-- What is left to know at the end. -/
structure CE (W : World) (ch : List Nat) (pA : Option Addr) (M : Nat) (pa : Nat → Option Addr) (pc : Nat → Nat) (zs : Nat → List Int) (tA : Option Addr) (tn : Nat) (ts : List Int) (w : World) : Prop where
  below : Below W.heap.size W w
  chb : ∀ c ∈ ch, W.heap.size ≤ c
  rp : PR ch pA M pa (fun p => (zs p).length) pc zs w
  rt : IR ch tA tn ts w
section
variable {W : World} {ch : List Nat} {pA : Option Addr} {M : Nat} {pa : Nat → Option Addr} {pc : Nat → Nat} {zs : Nat → List Int} {tA : Option Addr} {tn : Nat} {ts : List Int} {w w₁ : World}
theorem CE.rely {ty : TypeId × Bool} {Wg : Nat} (h : CE W ch pA M pa pc zs tA tn ts w) (r : RC ty Wg ch w w₁) : CE W ch pA M pa pc zs tA tn ts w₁ :=
  ⟨⟨r.os.trans h.below.os, r.tape.trans h.below.tape, r.output.trans h.below.output, by rw [r.size]; exact h.below.size, fun b hb => (r.block b fun hc => by have := h.chb b hc; omega).trans (h.below.block b hb)⟩, h.chb, h.rp.rely r, h.rt.rely r⟩
theorem CE.ir {a0 : Option Addr} {n : Nat} {xs : List Int} (h : CE W ch pA M pa pc zs tA tn ts w) (i : IR [] a0 n xs W) : IR ch a0 n xs w :=
  ⟨i.len, i.max, i.ex, fun a ha hn hc => by have := i.lt ha hn; have := h.chb _ hc; omega, fun j a hj ha => by
    have hc0 := i.cell j a hj ha
    have hlt := lt_of_cell hc0
    exact (h.below.cell hlt).trans hc0⟩
theorem CE.pr {qA : Option Addr} {m : Nat} {qa : Nat → Option Addr} {qn qc : Nat → Nat} {ys : Nat → List Int} (h : CE W ch pA M pa pc zs tA tn ts w) (i : PR [] qA m qa qn qc ys W) : PR ch qA m qa qn qc ys w :=
  ⟨i.max, i.ex, fun ad ha hm hc => by have := lt_of_cell (i.pv 0 ad hm ha); rw [addBlock] at this; have := h.chb _ hc; omega, fun p ad hp ha => by
    have hc0 := i.pv p ad hp ha
    exact (h.below.cell (lt_of_cell hc0)).trans hc0, fun p hp => h.ir (i.ir p hp)⟩
theorem CE.grows {but : Option Nat} (h : CE W ch pA M pa pc zs tA tn ts w) (g : Grows ch but w w₁) (hb0 : ∀ k, but = some k → W.heap.size ≤ k) (hb : ∀ ad, pA = some ad → 0 < M → some ad.block ≠ but) (hb2 : ∀ p, p < M → ∀ ad, pa p = some ad → 0 < (zs p).length → some ad.block ≠ but) (hb3 : ∀ ad, tA = some ad → 0 < tn → some ad.block ≠ but) : CE W ch pA M pa pc zs tA tn ts w₁ :=
  ⟨⟨g.os.trans h.below.os, g.tape.trans h.below.tape, g.output.trans h.below.output, by have := h.below.size; have := g.size; omega, fun b hb' => (g.block b (by have := h.below.size; omega) (fun hc => by have := h.chb b hc; omega) (fun e => by have := hb0 b e.symm; omega)).trans (h.below.block b hb')⟩, h.chb, h.rp.growsB g hb hb2, h.rt.growsB g hb3⟩
end

section
variable (Wg : Nat) (T ch GG : List Nat) (hGc : ∀ b ∈ GG, b ∈ ch) (W : World) (qA : Option Addr) (M pcap : Nat) (qa : Nat → Option Addr) (qc : Nat → Nat) (uA : Option Addr) (tn tcap : Nat) (zs : Nat → List Int) (ts : List Int) (pA tA : Option Addr) (pcap2 tcap2 : Nat) (pa : Nat → Option Addr) (pc : Nat → Nat)

include hGc in
set_option maxRecDepth 100000 in
/-- The region that compares a part. -/
theorem reg5x (hQ : PR [] qA M qa (fun p => (zs p).length) qc zs W) (j : Nat) (hj : j < M) (pd qd : Addr) (hpd : pA = some pd) (hqd : qA = some qd) (nf : Nat) (hsame : ∀ (a0 b0 : Option Addr) (cap0 cap1 : Nat) (xs : List Int) (w : World), xs.length = (zs j).length → IR ch a0 (zs j).length xs w → IR ch b0 (zs j).length xs w →
    CallsC Try.prog true (RC (0, false) Wg ch) (DM (0, false) Wg T ch GG) 12 #[.slice a0 (zs j).length cap0, .slice b0 (zs j).length cap1] nf w fun v w' => v = .bool true ∧ RC (0, false) Wg ch w w')
    (u2 u3 u4 u5 u7 u9 u10 u11 u14 u15 u16 u17 u18 u19 u20 u21 u22 u23 u24 u25 u26 u27 u28 u29 u30 u31 u32 u33 u34 u35 u36 u37 u38 u39 u40 u41 u42 u43 u44 u45 u46 u47 u48 u49 u50 u51 u52 u53 u54 u55 u56 u57 u58 u59 u60 u61 u62 u63 u64 u65 u66 u67 u68 u69 u70 : Value) (w : World) (hF : CE W ch pA M pa pc zs tA tn ts w) :
    (Code.region 15 ops5x true).wpC Try.prog true (RC (0, false) Wg ch) (DM (0, false) Wg T ch GG) 5 (10 + (nf + 10) + 1) (fun e a' w' => e = .normal ∧ a' = ⟨#[.slice qA M pcap, .slice uA tn tcap, u2, u3, u4, u5, .slice pA M pcap2, u7, .slice tA tn tcap2, u9, u10, u11, .bool true, .int .i64 j, u14, u15, u16, u17, u18, u19, u20, u21, u22, u23, u24, u25, u26, u27, u28, u29, u30, u31, u32, u33, u34, u35, u36, u37, u38, u39, u40, u41, u42, u43, u44, u45, u46, u47, u48, u49, u50, u51, u52, .bool true, .bool true, .slice pA M pcap2, .int .i64 j, .pointer (some (pd.add j)), .slice (pa j) (zs j).length (pc j), .slice qA M pcap, .int .i64 j, .pointer (some (qd.add j)), .slice (qa j) (zs j).length (qc j), .bool true, .bool true, u65, u66, u67, u68, u69, u70], []⟩ ∧ CE W ch pA M pa pc zs tA tn ts w') ⟨#[.slice qA M pcap, .slice uA tn tcap, u2, u3, u4, u5, .slice pA M pcap2, u7, .slice tA tn tcap2, u9, u10, u11, .bool true, .int .i64 j, u14, u15, u16, u17, u18, u19, u20, u21, u22, u23, u24, u25, u26, u27, u28, u29, u30, u31, u32, u33, u34, u35, u36, u37, u38, u39, u40, u41, u42, u43, u44, u45, u46, u47, u48, u49, u50, u51, u52, u53, u54, u55, u56, u57, u58, u59, u60, u61, u62, u63, u64, u65, u66, u67, u68, u69, u70], []⟩ w := by
  subst hpd hqd
  have hj' : (j : Int) < (M : Int) := by omega
  have hP0 : ∀ w, CE W ch (some pd) M pa pc zs tA tn ts w → w.cell? (pd.add j) = some (.slice (pa j) (zs j).length (pc j)) := fun w h => h.rp.pv j pd hj rfl
  have hP1 : ∀ w, CE W ch (some pd) M pa pc zs tA tn ts w → ∀ s, EvM T GG w.heap.size ⟨.cell (pd.add j), false, s⟩ := fun w h => h.rp.ev (T := T) hGc (p := j) hj rfl
  have hQ0 : ∀ w, CE W ch (some pd) M pa pc zs tA tn ts w → w.cell? (qd.add j) = some (.slice (qa j) (zs j).length (qc j)) := fun w h => (h.pr hQ).pv j qd hj rfl
  have hQ1 : ∀ w, CE W ch (some pd) M pa pc zs tA tn ts w → ∀ s, EvM T GG w.heap.size ⟨.cell (qd.add j), false, s⟩ := fun w h => (h.pr hQ).ev (T := T) hGc (p := j) hj rfl
  refine wpC_region_tailT (K := [10, 11, 12]) (Q' := fun e a' w' => e = .normal ∧ a' = ⟨#[.slice (some qd) M pcap, .slice uA tn tcap, u2, u3, u4, u5, .slice (some pd) M pcap2, u7, .slice tA tn tcap2, u9, u10, u11, .bool true, .int .i64 j, u14, u15, u16, u17, u18, u19, u20, u21, u22, u23, u24, u25, u26, u27, u28, u29, u30, u31, u32, u33, u34, u35, u36, u37, u38, u39, u40, u41, u42, u43, u44, u45, u46, u47, u48, u49, u50, u51, u52, .bool true, .bool true, .slice (some pd) M pcap2, .int .i64 j, .pointer (some (pd.add j)), .slice (pa j) (zs j).length (pc j), .slice (some qd) M pcap, .int .i64 j, .pointer (some (qd.add j)), .slice (qa j) (zs j).length (qc j), u63, u64, u65, u66, u67, u68, u69, u70], []⟩ ∧ CE W ch (some pd) M pa pc zs tA tn ts w') (S := CE W ch (some pd) M pa pc zs tA tn ts) (termsM (0, false) Wg T ch GG) (drawM (0, false) Wg T ch GG) (by first | kernel_rfl | rfl) lev5x sz5x good5x ?_ ?_
  · intro w₁ hR
    replace hF := (hF.rely hR).rely (ownDraw (0, false) Wg ch _)
    clear hR
    show AnyCH _ _ _ _ _ _ _ _ 10 _ _ _
    simp only [ops5x, B5b, L5b, t5f, t5e, t5d, t5c, t5b, t5a, body5, Try.f5, Option.getD_some]
    (co_applyP anyCH_take (termsM (0, false) Wg T ch GG) (fun _ _ h r => CE.rely h r) (fun _ _ _ h r => ⟨h.1, h.2.1, h.2.2.rely r⟩) (i := 0) rfl (by kernel_rfl) (by kernel_rfl) (by kernel_rfl) (.inl ⟨by rfl, fun _ hw => ⟨run_eq_of ?runx0, ?guarx0⟩⟩) hF ?restx0; (case runx0 => (intro K hK; skip; go_simp; exact hK)); (case guarx0 => (skip; co_quiet (termsM (0, false) Wg T ch GG))); (try walk_nrm))
    (co_applyP anyCH_take (termsM (0, false) Wg T ch GG) (fun _ _ h r => CE.rely h r) (fun _ _ _ h r => ⟨h.1, h.2.1, h.2.2.rely r⟩) (i := 1) rfl (by kernel_rfl) (by kernel_rfl) (by kernel_rfl) (.inl ⟨by rfl, fun _ hw => ⟨run_eq_of ?runx1, ?guarx1⟩⟩) hF ?restx1; (case runx1 => (intro K hK; skip; go_simp; exact hK)); (case guarx1 => (skip; co_quiet (termsM (0, false) Wg T ch GG))); (try walk_nrm))
    (co_applyP anyCH_take (termsM (0, false) Wg T ch GG) (fun _ _ h r => CE.rely h r) (fun _ _ _ h r => ⟨h.1, h.2.1, h.2.2.rely r⟩) (i := 2) rfl (by kernel_rfl) (by kernel_rfl) (by kernel_rfl) (.inl ⟨by rfl, fun _ hw => ⟨run_eq_of ?runx2, ?guarx2⟩⟩) hF ?restx2; (case runx2 => (intro K hK; skip; go_simp; exact hK)); (case guarx2 => (skip; co_quiet (termsM (0, false) Wg T ch GG))); (try walk_nrm))
    (co_applyP anyCH_take (termsM (0, false) Wg T ch GG) (fun _ _ h r => CE.rely h r) (fun _ _ _ h r => ⟨h.1, h.2.1, h.2.2.rely r⟩) (i := 3) rfl (by kernel_rfl) (by kernel_rfl) (by kernel_rfl) (.inl ⟨by rfl, fun _ hw => ⟨run_eq_of ?runx3, ?guarx3⟩⟩) hF ?restx3; (case runx3 => (intro K hK; skip; go_simp; exact hK)); (case guarx3 => (skip; co_quiet (termsM (0, false) Wg T ch GG))); (try walk_nrm))
    (co_applyP anyCH_take (termsM (0, false) Wg T ch GG) (fun _ _ h r => CE.rely h r) (fun _ _ _ h r => ⟨h.1, h.2.1, h.2.2.rely r⟩) (i := 4) rfl (by kernel_rfl) (by kernel_rfl) (by kernel_rfl) (.inl ⟨by rfl, fun _ hw => ⟨run_eq_of ?runx4, ?guarx4⟩⟩) hF ?restx4; (case runx4 => (intro K hK; skip; go_simp; exact hK)); (case guarx4 => (skip; co_still (termsM (0, false) Wg T ch GG))); (try walk_nrm))
    (co_applyP anyCH_take (termsM (0, false) Wg T ch GG) (fun _ _ h r => CE.rely h r) (fun _ _ _ h r => ⟨h.1, h.2.1, h.2.2.rely r⟩) (i := 5) rfl (by kernel_rfl) (by kernel_rfl) (by kernel_rfl) (.inl ⟨by rfl, fun _ hw => ⟨run_eq_of ?runx5, ?guarx5⟩⟩) hF ?restx5; (case runx5 => (intro K hK; have hc := hP0 _ hw; have hv := hP1 _ hw; go_simp; exact hK)); (case guarx5 => (have hc := hP0 _ hw; have hv := hP1 _ hw; refine DM_same ?_; co_evs (exact hv _))); (try walk_nrm))
    (co_applyP anyCH_take (termsM (0, false) Wg T ch GG) (fun _ _ h r => CE.rely h r) (fun _ _ _ h r => ⟨h.1, h.2.1, h.2.2.rely r⟩) (i := 6) rfl (by kernel_rfl) (by kernel_rfl) (by kernel_rfl) (.inl ⟨by rfl, fun _ hw => ⟨run_eq_of ?runx6, ?guarx6⟩⟩) hF ?restx6; (case runx6 => (intro K hK; skip; go_simp; exact hK)); (case guarx6 => (skip; co_quiet (termsM (0, false) Wg T ch GG))); (try walk_nrm))
    (co_applyP anyCH_take (termsM (0, false) Wg T ch GG) (fun _ _ h r => CE.rely h r) (fun _ _ _ h r => ⟨h.1, h.2.1, h.2.2.rely r⟩) (i := 7) rfl (by kernel_rfl) (by kernel_rfl) (by kernel_rfl) (.inl ⟨by rfl, fun _ hw => ⟨run_eq_of ?runx7, ?guarx7⟩⟩) hF ?restx7; (case runx7 => (intro K hK; skip; go_simp; exact hK)); (case guarx7 => (skip; co_quiet (termsM (0, false) Wg T ch GG))); (try walk_nrm))
    (co_applyP anyCH_take (termsM (0, false) Wg T ch GG) (fun _ _ h r => CE.rely h r) (fun _ _ _ h r => ⟨h.1, h.2.1, h.2.2.rely r⟩) (i := 8) rfl (by kernel_rfl) (by kernel_rfl) (by kernel_rfl) (.inl ⟨by rfl, fun _ hw => ⟨run_eq_of ?runx8, ?guarx8⟩⟩) hF ?restx8; (case runx8 => (intro K hK; skip; go_simp; exact hK)); (case guarx8 => (skip; co_still (termsM (0, false) Wg T ch GG))); (try walk_nrm))
    (co_applyP anyCH_take (termsM (0, false) Wg T ch GG) (fun _ _ h r => CE.rely h r) (fun _ _ _ h r => ⟨h.1, h.2.1, h.2.2.rely r⟩) (i := 9) rfl (by kernel_rfl) (by kernel_rfl) (by kernel_rfl) (.inl ⟨by rfl, fun _ hw => ⟨run_eq_of ?runx9, ?guarx9⟩⟩) hF ?restx9; (case runx9 => (intro K hK; have hc := hQ0 _ hw; have hv := hQ1 _ hw; go_simp; exact hK)); (case guarx9 => (have hc := hQ0 _ hw; have hv := hQ1 _ hw; refine DM_same ?_; co_evs (exact hv _))); (try walk_nrm))
    exact anyCH_done (by kernel_rfl) ⟨rfl, rfl, hF⟩ _
  · rintro a w ⟨_, rfl, hF⟩ b k cs Stop m hb hk hc
    simp only [ops5x, B5b, L5b, t5f, t5e, t5d, t5c, t5b, t5a, body5, Try.f5, Option.getD_some]
    refine Goes.mono (n := (m + 3) + nf + 3) ?_ (by omega)
    refine Goes.call (termsM _ _ _ _ _) rfl rfl hk rfl (nf := nf) (by (simp only [List.map_toArray, List.map_cons, List.map_nil, Act.eval, Array.getD_eq_getD_getElem?, List.getElem?_toArray, List.getElem?_cons_succ, List.getElem?_cons_zero, Option.getD_some]); exact hsame _ _ _ _ (zs j) _ rfl (hF.rp.ir j hj) ((hF.pr hQ).ir j hj)) ?_
    rintro _ w' ⟨rfl, hr⟩
    replace hF := hF.rely hr
    clear hr
    try walk_nrm
    (refine goes_vn (termsM (0, false) Wg T ch GG) (.bool true) rfl rfl hk (fun _ => by go_simp; try (first | omega | (w_num; omega) | w_num | decide)) (fun _ => by simp [go_sem, *]) (fun _ h₁ => ?_); replace hF := CE.rely hF h₁; clear h₁; (try walk_nrm))
    (refine goes_vn (termsM (0, false) Wg T ch GG) (.bool true) rfl rfl hk (fun _ => by go_simp; try (first | omega | (w_num; omega) | w_num | decide)) (fun _ => by simp [go_sem, *]) (fun _ h₁ => ?_); replace hF := CE.rely hF h₁; clear h₁; (try walk_nrm))
    (first | ((with_reducible first | refine goes_rend ?_ ?_ | refine goes_sq ?_ ?_ | refine goes_sk ?_ ?_ | refine goes_bl ?_ ?_ | refine goes_lo ?_ ?_ | refine goes_ib ?_ ?_ | refine goes_il ?_ ?_ | refine goes_rt ?_ ?_ | refine goes_en ?_ ?_); exact termsM _ _ _ _ _; intro _ h₁; replace hF := CE.rely hF h₁; clear h₁) | (with_reducible refine goes_rg ?_ ?_; exact termsM _ _ _ _ _; intro _ h₁; replace hF := CE.rely hF h₁; clear h₁; simp only [List.size_toArray, List.length_cons, List.length_nil, Nat.reduceAdd, Nat.zero_add, List.range, List.range.loop]))
    exact hc .normal ⟨#[.slice (some qd) M pcap, .slice uA tn tcap, u2, u3, u4, u5, .slice (some pd) M pcap2, u7, .slice tA tn tcap2, u9, u10, u11, .bool true, .int .i64 j, u14, u15, u16, u17, u18, u19, u20, u21, u22, u23, u24, u25, u26, u27, u28, u29, u30, u31, u32, u33, u34, u35, u36, u37, u38, u39, u40, u41, u42, u43, u44, u45, u46, u47, u48, u49, u50, u51, u52, .bool true, .bool true, .slice (some pd) M pcap2, .int .i64 j, .pointer (some (pd.add j)), .slice (pa j) (zs j).length (pc j), .slice (some qd) M pcap, .int .i64 j, .pointer (some (qd.add j)), .slice (qa j) (zs j).length (qc j), .bool true, .bool true, u65, u66, u67, u68, u69, u70], []⟩ _ ⟨rfl, rfl, hF⟩

noncomputable def head5b (j : Nat) (u2 u3 u4 u5 u7 u9 u10 u11 u14 u15 u16 u17 u18 u19 u20 u21 u22 u23 u24 u25 u26 u27 u28 u29 u30 u31 u32 u33 u34 u35 u36 u37 u38 u39 u40 u41 u42 u43 u44 u45 u46 u47 u48 u49 u50 u51 u52 u53 u54 u55 u56 u57 u58 u59 u60 u61 u62 u63 u64 u65 u66 u67 u68 u69 u70 : Value) : Goroutine := G ((base 5).at ⟨#[.slice qA M pcap, .slice uA tn tcap, u2, u3, u4, u5, .slice pA M pcap2, u7, .slice tA tn tcap2, u9, u10, u11, .bool true, .int .i64 j, u14, u15, u16, u17, u18, u19, u20, u21, u22, u23, u24, u25, u26, u27, u28, u29, u30, u31, u32, u33, u34, u35, u36, u37, u38, u39, u40, u41, u42, u43, u44, u45, u46, u47, u48, u49, u50, u51, u52, u53, u54, u55, u56, u57, u58, u59, u60, u61, u62, u63, u64, u65, u66, u67, u68, u69, u70], []⟩ [.code L5b, .inLoop L5b, .inBlock 2, .code t5g]) []

include hGc in
set_option maxRecDepth 100000 in
/-- Each part is as it was. -/
theorem loop5b (hQ : PR [] qA M qa (fun p => (zs p).length) qc zs W) (Stop : Goroutine → World → Prop) (q Q : Nat) (hsame : ∀ j, j < M → ∀ (a0 b0 : Option Addr) (cap0 cap1 : Nat) (xs : List Int) (w : World), xs.length = (zs j).length → IR ch a0 (zs j).length xs w → IR ch b0 (zs j).length xs w →
    CallsC Try.prog true (RC (0, false) Wg ch) (DM (0, false) Wg T ch GG) 12 #[.slice a0 (zs j).length cap0, .slice b0 (zs j).length cap1] Q w fun v w' => v = .bool true ∧ RC (0, false) Wg ch w w')
    (next : ∀ (u2 u3 u4 u5 u7 u9 u10 u11 u14 u15 u16 u17 u18 u19 u20 u21 u22 u23 u24 u25 u26 u27 u28 u29 u30 u31 u32 u33 u34 u35 u36 u37 u38 u39 u40 u41 u42 u43 u44 u45 u46 u47 u48 u49 u50 u51 u52 u53 u54 u55 u56 u57 u58 u59 u60 u61 u62 u63 u64 u65 u66 u67 u68 u69 u70 : Value) w', CE W ch pA M pa pc zs tA tn ts w' → Goes Try.prog true (RC (0, false) Wg ch) (DM (0, false) Wg T ch GG) Stop q (head5b qA M pcap uA tn tcap pA tA pcap2 tcap2 M u2 u3 u4 u5 u7 u9 u10 u11 u14 u15 u16 u17 u18 u19 u20 u21 u22 u23 u24 u25 u26 u27 u28 u29 u30 u31 u32 u33 u34 u35 u36 u37 u38 u39 u40 u41 u42 u43 u44 u45 u46 u47 u48 u49 u50 u51 u52 u53 u54 u55 u56 u57 u58 u59 u60 u61 u62 u63 u64 u65 u66 u67 u68 u69 u70) w') :
    ∀ (r j : Nat), j + r = M → ∀ (u2 u3 u4 u5 u7 u9 u10 u11 u14 u15 u16 u17 u18 u19 u20 u21 u22 u23 u24 u25 u26 u27 u28 u29 u30 u31 u32 u33 u34 u35 u36 u37 u38 u39 u40 u41 u42 u43 u44 u45 u46 u47 u48 u49 u50 u51 u52 u53 u54 u55 u56 u57 u58 u59 u60 u61 u62 u63 u64 u65 u66 u67 u68 u69 u70 : Value) (w : World), CE W ch pA M pa pc zs tA tn ts w → Goes Try.prog true (RC (0, false) Wg ch) (DM (0, false) Wg T ch GG) Stop (q + (Q + 100) * r) (head5b qA M pcap uA tn tcap pA tA pcap2 tcap2 j u2 u3 u4 u5 u7 u9 u10 u11 u14 u15 u16 u17 u18 u19 u20 u21 u22 u23 u24 u25 u26 u27 u28 u29 u30 u31 u32 u33 u34 u35 u36 u37 u38 u39 u40 u41 u42 u43 u44 u45 u46 u47 u48 u49 u50 u51 u52 u53 u54 u55 u56 u57 u58 u59 u60 u61 u62 u63 u64 u65 u66 u67 u68 u69 u70) w := by
  intro r
  induction r with
  | zero =>
    intro j hj u2 u3 u4 u5 u7 u9 u10 u11 u14 u15 u16 u17 u18 u19 u20 u21 u22 u23 u24 u25 u26 u27 u28 u29 u30 u31 u32 u33 u34 u35 u36 u37 u38 u39 u40 u41 u42 u43 u44 u45 u46 u47 u48 u49 u50 u51 u52 u53 u54 u55 u56 u57 u58 u59 u60 u61 u62 u63 u64 u65 u66 u67 u68 u69 u70 w hF
    obtain rfl : j = M := by omega
    exact next u2 u3 u4 u5 u7 u9 u10 u11 u14 u15 u16 u17 u18 u19 u20 u21 u22 u23 u24 u25 u26 u27 u28 u29 u30 u31 u32 u33 u34 u35 u36 u37 u38 u39 u40 u41 u42 u43 u44 u45 u46 u47 u48 u49 u50 u51 u52 u53 u54 u55 u56 u57 u58 u59 u60 u61 u62 u63 u64 u65 u66 u67 u68 u69 u70 w hF
  | succ r ih =>
    intro j hj u2 u3 u4 u5 u7 u9 u10 u11 u14 u15 u16 u17 u18 u19 u20 u21 u22 u23 u24 u25 u26 u27 u28 u29 u30 u31 u32 u33 u34 u35 u36 u37 u38 u39 u40 u41 u42 u43 u44 u45 u46 u47 u48 u49 u50 u51 u52 u53 u54 u55 u56 u57 u58 u59 u60 u61 u62 u63 u64 u65 u66 u67 u68 u69 u70 w hF
    have hjM : j < M := by omega
    obtain ⟨pd, hpd⟩ := hF.rp.ex (by omega)
    obtain ⟨qd, hqd⟩ := hQ.ex (by omega)
    have hj' : (j : Int) < (M : Int) := by omega
    have hmx := hQ.max
    have hwr : IntKind.i64.wrap ((j : Int) + 1) = ((j + 1 : Nat) : Int) := by rw [IntKind.wrap_i64]; omega
    have ih := ih (j + 1) (by omega)
    have hk : (base 5).kind ≠ .early := by decide
    subst hpd hqd
    have hreg := reg5x Wg T ch GG hGc W (some qd) M pcap qa qc uA tn tcap zs ts (some pd) tA pcap2 tcap2 pa pc hQ j hjM pd qd rfl rfl Q (hsame j hjM)
    have hbud : q + (Q + 100) * (r + 1) = (q + (Q + 100) * r) + (Q + 100) := by rw [Nat.mul_add]; omega
    rw [hbud]
    generalize q + (Q + 100) * r = q' at *
    simp only [head5b, ops5x, L5b, B5b, R5b, t5g, t5f, t5e, t5d, t5c, t5b, t5a, body5, Try.f5, Option.getD_some] at ih hreg ⊢
    refine Goes.mono (n := (q' + Q + 70) + 30) ?_ (by omega)
    repeat (first | (first | ((with_reducible first | refine goes_rend ?_ ?_ | refine goes_sq ?_ ?_ | refine goes_sk ?_ ?_ | refine goes_bl ?_ ?_ | refine goes_lo ?_ ?_ | refine goes_ib ?_ ?_ | refine goes_il ?_ ?_ | refine goes_rt ?_ ?_ | refine goes_en ?_ ?_); exact termsM _ _ _ _ _; intro _ h₁; replace hF := CE.rely hF h₁; clear h₁) | (with_reducible refine goes_rg ?_ ?_; exact termsM _ _ _ _ _; intro _ h₁; replace hF := CE.rely hF h₁; clear h₁; simp only [List.size_toArray, List.length_cons, List.length_nil, Nat.reduceAdd, Nat.zero_add, List.range, List.range.loop])) | (refine Goes.step rfl (fun w₁ h₁ => ?_); replace hF := (CE.rely hF) h₁; clear h₁; refine goes_oper_k rfl rfl hk (fun K hK => ?_); skip; go_simp; refine hK _ _ ⟨DM_same (fun e he => ?_), ?_⟩; (focus (have hm := mem_listed he; (simp [go_sem, *] at hm); (try (subst hm; exact hv _)))); (clear hK K); (try walk_nrm)))
    (refine goes_cd (termsM (0, false) Wg T ch GG) true rfl (fun _ h₁ => ?_); replace hF := CE.rely hF h₁; clear h₁; simp only [if_true, if_false, Bool.false_eq_true, ↓reduceIte])
    (first | ((with_reducible first | refine goes_rend ?_ ?_ | refine goes_sq ?_ ?_ | refine goes_sk ?_ ?_ | refine goes_bl ?_ ?_ | refine goes_lo ?_ ?_ | refine goes_ib ?_ ?_ | refine goes_il ?_ ?_ | refine goes_rt ?_ ?_ | refine goes_en ?_ ?_); exact termsM _ _ _ _ _; intro _ h₁; replace hF := CE.rely hF h₁; clear h₁) | (with_reducible refine goes_rg ?_ ?_; exact termsM _ _ _ _ _; intro _ h₁; replace hF := CE.rely hF h₁; clear h₁; simp only [List.size_toArray, List.length_cons, List.length_nil, Nat.reduceAdd, Nat.zero_add, List.range, List.range.loop]))
    (first | ((with_reducible first | refine goes_rend ?_ ?_ | refine goes_sq ?_ ?_ | refine goes_sk ?_ ?_ | refine goes_bl ?_ ?_ | refine goes_lo ?_ ?_ | refine goes_ib ?_ ?_ | refine goes_il ?_ ?_ | refine goes_rt ?_ ?_ | refine goes_en ?_ ?_); exact termsM _ _ _ _ _; intro _ h₁; replace hF := CE.rely hF h₁; clear h₁) | (with_reducible refine goes_rg ?_ ?_; exact termsM _ _ _ _ _; intro _ h₁; replace hF := CE.rely hF h₁; clear h₁; simp only [List.size_toArray, List.length_cons, List.length_nil, Nat.reduceAdd, Nat.zero_add, List.range, List.range.loop]))
    (first | ((with_reducible first | refine goes_rend ?_ ?_ | refine goes_sq ?_ ?_ | refine goes_sk ?_ ?_ | refine goes_bl ?_ ?_ | refine goes_lo ?_ ?_ | refine goes_ib ?_ ?_ | refine goes_il ?_ ?_ | refine goes_rt ?_ ?_ | refine goes_en ?_ ?_); exact termsM _ _ _ _ _; intro _ h₁; replace hF := CE.rely hF h₁; clear h₁) | (with_reducible refine goes_rg ?_ ?_; exact termsM _ _ _ _ _; intro _ h₁; replace hF := CE.rely hF h₁; clear h₁; simp only [List.size_toArray, List.length_cons, List.length_nil, Nat.reduceAdd, Nat.zero_add, List.range, List.range.loop]))
    refine Goes.mono (n := (q' + 40) + (10 + (Q + 10) + 1)) ?_ (by omega)
    refine wpC_goes (hreg _ _ _ _ _ _ _ _ _ _ _ _ _ _ _ _ _ _ _ _ _ _ _ _ _ _ _ _ _ _ _ _ _ _ _ _ _ _ _ _ _ _ _ _ _ _ _ _ _ _ _ _ _ _ _ _ _ _ _ _ _ _ _ _ _ _ hF) rfl hk fun e a' w' q => ?_
    obtain ⟨rfl, rfl, hF⟩ := q
    clear hreg
    show Goes Try.prog true (RC (0, false) Wg ch) (DM (0, false) Wg T ch GG) Stop (q' + 40) (G ((base 5).at _ _) []) _
    (first | ((with_reducible first | refine goes_rend ?_ ?_ | refine goes_sq ?_ ?_ | refine goes_sk ?_ ?_ | refine goes_bl ?_ ?_ | refine goes_lo ?_ ?_ | refine goes_ib ?_ ?_ | refine goes_il ?_ ?_ | refine goes_rt ?_ ?_ | refine goes_en ?_ ?_); exact termsM _ _ _ _ _; intro _ h₁; replace hF := CE.rely hF h₁; clear h₁) | (with_reducible refine goes_rg ?_ ?_; exact termsM _ _ _ _ _; intro _ h₁; replace hF := CE.rely hF h₁; clear h₁; simp only [List.size_toArray, List.length_cons, List.length_nil, Nat.reduceAdd, Nat.zero_add, List.range, List.range.loop]))
    (first | ((with_reducible first | refine goes_rend ?_ ?_ | refine goes_sq ?_ ?_ | refine goes_sk ?_ ?_ | refine goes_bl ?_ ?_ | refine goes_lo ?_ ?_ | refine goes_ib ?_ ?_ | refine goes_il ?_ ?_ | refine goes_rt ?_ ?_ | refine goes_en ?_ ?_); exact termsM _ _ _ _ _; intro _ h₁; replace hF := CE.rely hF h₁; clear h₁) | (with_reducible refine goes_rg ?_ ?_; exact termsM _ _ _ _ _; intro _ h₁; replace hF := CE.rely hF h₁; clear h₁; simp only [List.size_toArray, List.length_cons, List.length_nil, Nat.reduceAdd, Nat.zero_add, List.range, List.range.loop]))
    (refine Goes.step rfl (fun w₁ h₁ => ?_); replace hF := (CE.rely hF) h₁; clear h₁; refine goes_oper_k rfl rfl hk (fun K hK => ?_); skip; go_simp; refine hK _ _ ⟨DM_same (fun e he => ?_), ?_⟩; (focus (have hm := mem_listed he; (simp [go_sem, *] at hm); (try (subst hm; exact hv _)))); (clear hK K); (try walk_nrm))
    (refine Goes.step rfl (fun w₁ h₁ => ?_); replace hF := (CE.rely hF) h₁; clear h₁; refine goes_oper_k rfl rfl hk (fun K hK => ?_); skip; go_simp; refine hK _ _ ⟨DM_same (fun e he => ?_), ?_⟩; (focus (have hm := mem_listed he; (simp [go_sem, *] at hm); (try (subst hm; exact hv _)))); (clear hK K); (try walk_nrm))
    (refine Goes.step rfl (fun w₁ h₁ => ?_); replace hF := (CE.rely hF) h₁; clear h₁; refine goes_oper_k rfl rfl hk (fun K hK => ?_); skip; go_simp; refine hK _ _ ⟨DM_same (fun e he => ?_), ?_⟩; (focus (have hm := mem_listed he; (simp [go_sem, *] at hm); (try (subst hm; exact hv _)))); (clear hK K); (try walk_nrm))
    (first | ((with_reducible first | refine goes_rend ?_ ?_ | refine goes_sq ?_ ?_ | refine goes_sk ?_ ?_ | refine goes_bl ?_ ?_ | refine goes_lo ?_ ?_ | refine goes_ib ?_ ?_ | refine goes_il ?_ ?_ | refine goes_rt ?_ ?_ | refine goes_en ?_ ?_); exact termsM _ _ _ _ _; intro _ h₁; replace hF := CE.rely hF h₁; clear h₁) | (with_reducible refine goes_rg ?_ ?_; exact termsM _ _ _ _ _; intro _ h₁; replace hF := CE.rely hF h₁; clear h₁; simp only [List.size_toArray, List.length_cons, List.length_nil, Nat.reduceAdd, Nat.zero_add, List.range, List.range.loop]))
    (first | ((with_reducible first | refine goes_rend ?_ ?_ | refine goes_sq ?_ ?_ | refine goes_sk ?_ ?_ | refine goes_bl ?_ ?_ | refine goes_lo ?_ ?_ | refine goes_ib ?_ ?_ | refine goes_il ?_ ?_ | refine goes_rt ?_ ?_ | refine goes_en ?_ ?_); exact termsM _ _ _ _ _; intro _ h₁; replace hF := CE.rely hF h₁; clear h₁) | (with_reducible refine goes_rg ?_ ?_; exact termsM _ _ _ _ _; intro _ h₁; replace hF := CE.rely hF h₁; clear h₁; simp only [List.size_toArray, List.length_cons, List.length_nil, Nat.reduceAdd, Nat.zero_add, List.range, List.range.loop]))
    refine Goes.mono (n := q') ?_ (by omega)
    exact ih _ _ _ _ _ _ _ _ _ _ _ _ _ _ _ _ _ _ _ _ _ _ _ _ _ _ _ _ _ _ _ _ _ _ _ _ _ _ _ _ _ _ _ _ _ _ _ _ _ _ _ _ _ _ _ _ _ _ _ _ _ _ _ _ _ _ hF
end
end Go.Proofs.Ytplndihadjfliaa.Mix
/-
  CREW: the walk of CrewMerge: its end, its beginning, the whole.
-/
set_option linter.unusedSimpArgs false
set_option linter.unusedVariables false
set_option maxHeartbeats 2000000
namespace Go.Proofs.Ytplndihadjfliaa.Mix
open Go Go.Conc Go.ConcN Go.Proofs Go.RowKit

theorem callsC_more {P : Program} {main : Bool} {R : World → World → Prop} {D : World → World → Array Event → Prop} {f : FuncId} {args : Array Value} {n n' : Nat} {w : World} {Post : Value → World → Prop} (h : CallsC P main R D f args n w Post) (hn : n ≤ n') : CallsC P main R D f args n' w Post := by
  obtain ⟨fn, c, h1, h2, h3, h4⟩ := h
  exact ⟨fn, c, h1, h2, h3, fun b k cs Stop m hb hk hc => (h4 b k cs Stop m hb hk hc).mono (by omega)⟩
theorem bound_all {P : Nat → Nat → Prop} (hm : ∀ j q q', q ≤ q' → P j q → P j q') (h : ∀ j, ∃ q, P j q) : ∀ M, ∃ Q, ∀ j, j < M → P j Q
  | 0 => ⟨0, fun j hj => by omega⟩
  | M + 1 => by
    obtain ⟨Q, hQ⟩ := bound_all hm h M
    obtain ⟨q, hq⟩ := h M
    refine ⟨Q + q, fun j hj => ?_⟩
    by_cases e : j = M
    · subst e; exact hm _ _ _ (by omega) hq
    · exact hm _ _ _ (by omega) (hQ j (by omega))

section
variable (W : World) (qA : Option Addr) (M pcap : Nat) (uA : Option Addr) (tn tcap : Nat) (zs : Nat → List Int) (ts : List Int) {qa : Nat → Option Addr} {qc : Nat → Nat}

set_option maxRecDepth 100000 in
theorem cm_end (hQ : PR [] qA M qa (fun p => (zs p).length) qc zs W) (hU : IR [] uA tn ts W) (hn8 : ((refM M zs ts).length + 40) * 8 ≤ 140737488355328) (Wg : Nat) (T ch GG : List Nat) (g : Goroutine) (w : World) (h : AtEnd (PM3 W qA M pcap uA tn tcap zs ts) T ch GG g w) :
    FollowM Try.prog zi (0, false) Wg (AtRet Try.prog fun v w' => v = .bool true ∧ Below W.heap.size W w') [] T ch GG g w := by
  obtain ⟨_, want, NW, N1, pA, tA, pcap2, tcap2, pa, pc, o1, o2, o3, l1, h1, l2, h2, l3, h3, u, h12, h23, hF, rfl⟩ := h
  have hGc := hF.gc
  obtain ⟨qt, hthree⟩ := three_c Wg T ch GG hGc (refM M zs ts).length
  obtain ⟨qu, hsu⟩ := same_c Wg T ch GG hGc tn
  obtain ⟨qp, hsame⟩ := bound_all (P := fun j Q => ∀ (a0 b0 : Option Addr) (cap0 cap1 : Nat) (xs : List Int) (w : World), xs.length = (zs j).length → IR ch a0 (zs j).length xs w → IR ch b0 (zs j).length xs w →
    CallsC Try.prog true (RC (0, false) Wg ch) (DM (0, false) Wg T ch GG) 12 #[.slice a0 (zs j).length cap0, .slice b0 (zs j).length cap1] Q w fun v w' => v = .bool true ∧ RC (0, false) Wg ch w w')
    (fun j q q' hq h a0 b0 c0 c1 xs w hx i1 i2 => callsC_more (h a0 b0 c0 c1 xs w hx i1 i2) hq) (fun j => by
      obtain ⟨q, h⟩ := same_c Wg T ch GG hGc (zs j).length
      exact ⟨q, fun a0 b0 c0 c1 xs w _ i1 i2 => h a0 b0 c0 c1 xs w i1 i2⟩) M
  have hk : (base 5).kind ≠ .early := by decide
  have hs := hF.sz
  have hn1 := hF.n1
  have hnw := hF.nw
  obtain ⟨r1, r1b, r1c, r1d, r1e⟩ := hF.ra o1 l1 h1 (by simp)
  obtain ⟨r2, r2b, r2c, r2d, r2e⟩ := hF.ra o2 l2 h2 (by simp)
  obtain ⟨r3, r3b, r3c, r3d, r3e⟩ := hF.ra o3 l3 h3 (by simp)
  obtain ⟨dd, cd, rfl, _⟩ := own_slice hF.rw0
  obtain ⟨x1, c1, rfl, _⟩ := own_slice r1
  obtain ⟨x2, c2, rfl, _⟩ := own_slice r2
  obtain ⟨x3, c3, rfl, _⟩ := own_slice r3
  clear r1 r2 r3 r1d r1e r2d r2e r3d r3e
  refine followM_iff.2 ⟨((0 + qt + 3) + ((qu + 100) + (qp + 100) * M)) + 100, ?_⟩
  show Goes Try.prog true (RC (0, false) Wg ch) (DM (0, false) Wg T ch GG) (AtEnd _ T ch GG) _ _ _
  generalize hB : (qu + 100) + (qp + 100) * M = B
  simp only [ops5c, ops5d, ops5e, t5f, t5e, t5d, t5c, t5b, t5a, body5, Try.f5, Option.getD_some]
  repeat (first | (first | ((with_reducible first | refine goes_rend ?_ ?_ | refine goes_sq ?_ ?_ | refine goes_sk ?_ ?_ | refine goes_bl ?_ ?_ | refine goes_lo ?_ ?_ | refine goes_ib ?_ ?_ | refine goes_il ?_ ?_ | refine goes_rt ?_ ?_ | refine goes_en ?_ ?_); exact termsM _ _ _ _ _; intro _ h₁; replace hF := (CMS.rely hF) h₁; clear h₁) | (with_reducible refine goes_rg ?_ ?_; exact termsM _ _ _ _ _; intro _ h₁; replace hF := (CMS.rely hF) h₁; clear h₁; simp only [List.size_toArray, List.length_cons, List.length_nil, Nat.reduceAdd, Nat.zero_add, List.range, List.range.loop])) | (refine Goes.step rfl (fun w₁ h₁ => ?_); replace hF := (CMS.rely hF) h₁; clear h₁; refine goes_oper_k rfl rfl hk (fun K hK => ?_); skip; go_simp; refine hK _ _ ⟨DM_same (fun e he => ?_), ?_⟩; (focus (have hm := mem_listed he; (simp [go_sem, *] at hm); (try (subst hm; exact hv _)))); (clear hK K); (try walk_nrm)))
  refine Goes.mono (n := (B + 70) + qt + 3) ?_ (by omega)
  have hS := hF
  obtain ⟨r1, _, _, r1d, r1e⟩ := hF.ra (.slice x1 (refM M zs ts).length c1) l1 h1 (by simp)
  obtain ⟨r2, _, _, r2d, r2e⟩ := hF.ra (.slice x2 (refM M zs ts).length c2) l2 h2 (by simp)
  obtain ⟨r3, _, _, r3d, r3e⟩ := hF.ra (.slice x3 (refM M zs ts).length c3) l3 h3 (by simp)
  have hsz := hF.sz
  have hTn : ∀ k, N1 ≤ k → k ∉ T := fun k hk hT => by have := (hS.tb k hT).2; omega
  have b1 : ∀ k, (Value.slice x1 (refM M zs ts).length c1).ownBlock = some k → l1 ≤ k ∧ k < h1 := fun k hk => ⟨(r1.lt k hk).1, (r1b k hk).1⟩
  have b2 : ∀ k, (Value.slice x2 (refM M zs ts).length c2).ownBlock = some k → l2 ≤ k ∧ k < h2 := fun k hk => ⟨(r2.lt k hk).1, (r2b k hk).1⟩
  have b3 : ∀ k, (Value.slice x3 (refM M zs ts).length c3).ownBlock = some k → l3 ≤ k ∧ k < h3 := fun k hk => ⟨(r3.lt k hk).1, (r3b k hk).1⟩
  have hcall := hthree x1 x2 x3 dd c1 c2 c3 cd l1 l2 l3 W.heap.size (refM M zs ts) _ hn8 (fun b hb => by have := (hS.tb b hb).2; omega) (fun c hc => (hS.chb c hc).2)
    ⟨r1, fun k hk => ⟨(r1b k hk).2, hTn k (by have := b1 k hk; omega)⟩⟩ ⟨r2, fun k hk => ⟨(r2b k hk).2, hTn k (by have := b2 k hk; omega)⟩⟩ ⟨r3, fun k hk => ⟨(r3b k hk).2, hTn k (by have := b3 k hk; omega)⟩⟩
    ⟨hS.rw0, fun k hk => ⟨fun hc => by have := (hS.chb k hc).1; have := hS.wlt k hk; omega, fun hT => by have := (hS.tb k hT).1; have := hS.wlt k hk; omega⟩⟩ (by omega) (by omega)
    (fun k hk => ⟨fun h => by have := b1 k hk; have := b2 k h; omega, fun h => by have := b1 k hk; have := b3 k h; omega, fun h => by have := b1 k hk; have := hS.wlt k h; omega⟩)
    (fun k hk => ⟨fun h => by have := b3 k hk; have := b2 k h; omega, fun h => by have := b3 k hk; have := hS.wlt k h; omega⟩)
  refine Goes.call (termsM _ _ _ _ _) rfl rfl hk rfl (nf := qt) (by (simp only [List.map_toArray, List.map_cons, List.map_nil, Act.eval, Array.getD_eq_getD_getElem?, List.getElem?_toArray, List.getElem?_cons_succ, List.getElem?_cons_zero, Option.getD_some]); exact hcall) ?_
  rintro _ w' ⟨rfl, w1, w2, hr, g1, g2⟩
  have hE0 : CE W ch pA M pa pc zs tA tn ts w1 := CE.rely ⟨hS.below, fun c hc => by have := (hS.chb c hc).1; omega, hS.rp, hS.rt⟩ hr
  have hE1 := hE0.grows g1 (fun k hk => by have := b1 k hk; omega) (fun ad h0 hm e => by have := b1 _ e.symm; have := hS.rpb ad h0 hm; omega) (fun p hp ad h0 hm e => by have := b1 _ e.symm; have := (hS.rpl p hp ad h0 hm).2; omega) (fun ad h0 hm e => by have := b1 _ e.symm; have := hS.rtb ad h0 hm; omega)
  have hE2 := hE1.grows g2 (fun k hk => by have := b3 k hk; omega) (fun ad h0 hm e => by have := b3 _ e.symm; have := hS.rpb ad h0 hm; omega) (fun p hp ad h0 hm e => by have := b3 _ e.symm; have := (hS.rpl p hp ad h0 hm).2; omega) (fun ad h0 hm e => by have := b3 _ e.symm; have := hS.rtb ad h0 hm; omega)
  clear hF hS hr g1 g2 hE0 hE1 hcall r1 r2 r3
  have hF := hE2
  clear hE2
  try walk_nrm
  have hloop := loop5b Wg T ch GG hGc W qA M pcap qa qc uA tn tcap zs ts pA tA pcap2 tcap2 pa pc hQ (AtEnd (AtRet Try.prog fun v w' => v = .bool true ∧ Below W.heap.size W w') T ch GG) (qu + 100) qp hsame (fun u2 u3 u4 u5 u7 u9 u10 u11 u14 u15 u16 u17 u18 u19 u20 u21 u22 u23 u24 u25 u26 u27 u28 u29 u30 u31 u32 u33 u34 u35 u36 u37 u38 u39 u40 u41 u42 u43 u44 u45 u46 u47 u48 u49 u50 u51 u52 u53 u54 u55 u56 u57 u58 u59 u60 u61 u62 u63 u64 u65 u66 u67 u68 u69 u70 w' hF => by
    simp only [head5b, L5b, t5g, ops5c, ops5d, ops5e, t5f, t5e, t5d, t5c, t5b, t5a, body5, Try.f5, Option.getD_some]
    repeat (first | (first | ((with_reducible first | refine goes_rend ?_ ?_ | refine goes_sq ?_ ?_ | refine goes_sk ?_ ?_ | refine goes_bl ?_ ?_ | refine goes_lo ?_ ?_ | refine goes_ib ?_ ?_ | refine goes_il ?_ ?_ | refine goes_rt ?_ ?_ | refine goes_en ?_ ?_); exact termsM _ _ _ _ _; intro _ h₁; replace hF := (CE.rely hF) h₁; clear h₁) | (with_reducible refine goes_rg ?_ ?_; exact termsM _ _ _ _ _; intro _ h₁; replace hF := (CE.rely hF) h₁; clear h₁; simp only [List.size_toArray, List.length_cons, List.length_nil, Nat.reduceAdd, Nat.zero_add, List.range, List.range.loop])) | (refine Goes.step rfl (fun w₁ h₁ => ?_); replace hF := (CE.rely hF) h₁; clear h₁; refine goes_oper_k rfl rfl hk (fun K hK => ?_); skip; go_simp; refine hK _ _ ⟨DM_same (fun e he => ?_), ?_⟩; (focus (have hm := mem_listed he; (simp [go_sem, *] at hm); (try (subst hm; exact hv _)))); (clear hK K); (try walk_nrm)))
    (refine goes_cd (termsM (0, false) Wg T ch GG) false rfl (fun _ h₁ => ?_); replace hF := (CE.rely hF) h₁; clear h₁; simp only [if_true, if_false, Bool.false_eq_true, ↓reduceIte])
    (refine goes_c (termsM (0, false) Wg T ch GG) rfl (fun _ => stepG_exit rfl) (fun _ h₁ => ?_); replace hF := (CE.rely hF) h₁; clear h₁)
    repeat (first | (first | ((with_reducible first | refine goes_rend ?_ ?_ | refine goes_sq ?_ ?_ | refine goes_sk ?_ ?_ | refine goes_bl ?_ ?_ | refine goes_lo ?_ ?_ | refine goes_ib ?_ ?_ | refine goes_il ?_ ?_ | refine goes_rt ?_ ?_ | refine goes_en ?_ ?_); exact termsM _ _ _ _ _; intro _ h₁; replace hF := (CE.rely hF) h₁; clear h₁) | (with_reducible refine goes_rg ?_ ?_; exact termsM _ _ _ _ _; intro _ h₁; replace hF := (CE.rely hF) h₁; clear h₁; simp only [List.size_toArray, List.length_cons, List.length_nil, Nat.reduceAdd, Nat.zero_add, List.range, List.range.loop])) | (refine Goes.step rfl (fun w₁ h₁ => ?_); replace hF := (CE.rely hF) h₁; clear h₁; refine goes_oper_k rfl rfl hk (fun K hK => ?_); skip; go_simp; refine hK _ _ ⟨DM_same (fun e he => ?_), ?_⟩; (focus (have hm := mem_listed he; (simp [go_sem, *] at hm); (try (subst hm; exact hv _)))); (clear hK K); (try walk_nrm)))
    refine Goes.mono (n := (0 + 40) + qu + 3) ?_ (by omega)
    refine Goes.call (termsM _ _ _ _ _) rfl rfl hk rfl (nf := qu) (by (simp only [List.map_toArray, List.map_cons, List.map_nil, Act.eval, Array.getD_eq_getD_getElem?, List.getElem?_toArray, List.getElem?_cons_succ, List.getElem?_cons_zero, Option.getD_some]); exact hsu _ _ _ _ ts _ hF.rt (hF.ir hU)) ?_
    rintro _ w' ⟨rfl, hr⟩
    replace hF := CE.rely hF hr
    clear hr
    try walk_nrm
    repeat (first | (first | ((with_reducible first | refine goes_rend ?_ ?_ | refine goes_sq ?_ ?_ | refine goes_sk ?_ ?_ | refine goes_bl ?_ ?_ | refine goes_lo ?_ ?_ | refine goes_ib ?_ ?_ | refine goes_il ?_ ?_ | refine goes_rt ?_ ?_ | refine goes_en ?_ ?_); exact termsM _ _ _ _ _; intro _ h₁; replace hF := (CE.rely hF) h₁; clear h₁) | (with_reducible refine goes_rg ?_ ?_; exact termsM _ _ _ _ _; intro _ h₁; replace hF := (CE.rely hF) h₁; clear h₁; simp only [List.size_toArray, List.length_cons, List.length_nil, Nat.reduceAdd, Nat.zero_add, List.range, List.range.loop])) | (refine Goes.step rfl (fun w₁ h₁ => ?_); replace hF := (CE.rely hF) h₁; clear h₁; refine goes_oper_k rfl rfl hk (fun K hK => ?_); skip; go_simp; refine hK _ _ ⟨DM_same (fun e he => ?_), ?_⟩; (focus (have hm := mem_listed he; (simp [go_sem, *] at hm); (try (subst hm; exact hv _)))); (clear hK K); (try walk_nrm)))
    refine Goes.stop fun w₂ h₂ => ⟨rfl, .bool true, #[], ?_, by simp, rfl, (hF.rely h₂).below⟩
    simp [G, stepG, unwind, doReturn, results, Frame.at, base, Try.func5, Try.f5, seen, GStep.after]) M 0 (by omega)
  rw [hB] at hloop
  simp only [head5b, L5b, t5g, ops5c, ops5d, ops5e, t5f, t5e, t5d, t5c, t5b, t5a, body5, Try.f5, Option.getD_some] at hloop
  (refine Goes.step rfl (fun w₁ h₁ => ?_); replace hF := (CE.rely hF) h₁; clear h₁; refine goes_oper_k rfl rfl hk (fun K hK => ?_); skip; go_simp; refine hK _ _ ⟨DM_same (fun e he => ?_), ?_⟩; (focus (have hm := mem_listed he; (simp [go_sem, *] at hm); (try (subst hm; exact hv _)))); (clear hK K); (try walk_nrm))
  repeat (first | ((with_reducible first | refine goes_rend ?_ ?_ | refine goes_sq ?_ ?_ | refine goes_sk ?_ ?_ | refine goes_bl ?_ ?_ | refine goes_lo ?_ ?_ | refine goes_ib ?_ ?_ | refine goes_il ?_ ?_ | refine goes_rt ?_ ?_ | refine goes_en ?_ ?_); exact termsM _ _ _ _ _; intro _ h₁; replace hF := (CE.rely hF) h₁; clear h₁) | (with_reducible refine goes_rg ?_ ?_; exact termsM _ _ _ _ _; intro _ h₁; replace hF := (CE.rely hF) h₁; clear h₁; simp only [List.size_toArray, List.length_cons, List.length_nil, Nat.reduceAdd, Nat.zero_add, List.range, List.range.loop]))
  (refine Goes.step rfl (fun w₁ h₁ => ?_); replace hF := (CE.rely hF) h₁; clear h₁; refine goes_oper_k rfl rfl hk (fun K hK => ?_); skip; go_simp; refine hK _ _ ⟨DM_same (fun e he => ?_), ?_⟩; (focus (have hm := mem_listed he; (simp [go_sem, *] at hm); (try (subst hm; exact hv _)))); (clear hK K); (try walk_nrm))
  (first | ((with_reducible first | refine goes_rend ?_ ?_ | refine goes_sq ?_ ?_ | refine goes_sk ?_ ?_ | refine goes_bl ?_ ?_ | refine goes_lo ?_ ?_ | refine goes_ib ?_ ?_ | refine goes_il ?_ ?_ | refine goes_rt ?_ ?_ | refine goes_en ?_ ?_); exact termsM _ _ _ _ _; intro _ h₁; replace hF := (CE.rely hF) h₁; clear h₁) | (with_reducible refine goes_rg ?_ ?_; exact termsM _ _ _ _ _; intro _ h₁; replace hF := (CE.rely hF) h₁; clear h₁; simp only [List.size_toArray, List.length_cons, List.length_nil, Nat.reduceAdd, Nat.zero_add, List.range, List.range.loop]))
  (first | ((with_reducible first | refine goes_rend ?_ ?_ | refine goes_sq ?_ ?_ | refine goes_sk ?_ ?_ | refine goes_bl ?_ ?_ | refine goes_lo ?_ ?_ | refine goes_ib ?_ ?_ | refine goes_il ?_ ?_ | refine goes_rt ?_ ?_ | refine goes_en ?_ ?_); exact termsM _ _ _ _ _; intro _ h₁; replace hF := (CE.rely hF) h₁; clear h₁) | (with_reducible refine goes_rg ?_ ?_; exact termsM _ _ _ _ _; intro _ h₁; replace hF := (CE.rely hF) h₁; clear h₁; simp only [List.size_toArray, List.length_cons, List.length_nil, Nat.reduceAdd, Nat.zero_add, List.range, List.range.loop]))
  (first | ((with_reducible first | refine goes_rend ?_ ?_ | refine goes_sq ?_ ?_ | refine goes_sk ?_ ?_ | refine goes_bl ?_ ?_ | refine goes_lo ?_ ?_ | refine goes_ib ?_ ?_ | refine goes_il ?_ ?_ | refine goes_rt ?_ ?_ | refine goes_en ?_ ?_); exact termsM _ _ _ _ _; intro _ h₁; replace hF := (CE.rely hF) h₁; clear h₁) | (with_reducible refine goes_rg ?_ ?_; exact termsM _ _ _ _ _; intro _ h₁; replace hF := (CE.rely hF) h₁; clear h₁; simp only [List.size_toArray, List.length_cons, List.length_nil, Nat.reduceAdd, Nat.zero_add, List.range, List.range.loop]))
  refine Goes.mono (n := B) ?_ (by omega)
  exact hloop _ _ _ _ _ _ _ _ _ _ _ _ _ _ _ _ _ _ _ _ _ _ _ _ _ _ _ _ _ _ _ _ _ _ _ _ _ _ _ _ _ _ _ _ _ _ _ _ _ _ _ _ _ _ _ _ _ _ _ _ _ _ _ _ _ _ hF
end
end Go.Proofs.Ytplndihadjfliaa.Mix
/-
  CREW: the walk of CrewMerge: its beginning, the whole.
-/
set_option linter.unusedSimpArgs false
set_option linter.unusedVariables false
set_option maxHeartbeats 2000000
namespace Go.Proofs.Ytplndihadjfliaa.Mix
open Go Go.Conc Go.ConcN Go.Proofs Go.RowKit

theorem own_sliceL {w : World} {lo n : Nat} {v : Value} {ys : List Value} (h : w.ownsRow lo 22 1 v n ys) : ∃ a0 cap, v = .slice a0 n cap := by
  rcases h.2 with ⟨h0, h1⟩ | ⟨g, cp, cur, h0, _⟩
  · exact ⟨none, 0, by rw [h0, h1]⟩
  · exact ⟨_, cp, h0⟩

theorem KB.cms {W : World} {NW : Nat} {want : Value} {ref : List Int} {zs : Nat → List Int} {out tv : Value} {vs : List Value} {w w2 : World} {M tn : Nat} {ts : List Int} (h : KB W NW want ref zs out vs w) (hM : vs.length = M) (hMx : M ≤ 9223372036854775807) (hl : ∀ p, p < M → (zs p).length ≤ 9223372036854775807)
    (k : KO [] w w.heap.size tv (ts.map iv) w2) (ht : ts.length = tn) (htx : tn ≤ 9223372036854775807) :
    ∃ pA pcap2 tA tcap2, out = .slice pA M pcap2 ∧ tv = .slice tA tn tcap2 ∧ CMS W [] [] [] NW w2.heap.size want ref pA M (fun p => slA (vs.getD p undef)) (fun p => (zs p).length) (fun p => slC (vs.getD p undef)) zs tA tn ts [] w2 := by
  have h2 := h.grows k.g
  subst hM ht
  obtain ⟨pA, pcap2, rfl⟩ := own_sliceL h2.own
  have ko := k.own
  rw [List.length_map] at ko
  obtain ⟨tA, tcap2, rfl, _⟩ := own_slice ko
  have hcell : ∀ p ad, p < vs.length → pA = some ad → w2.cell? (ad.add p) = vs[p]? := by
    intro p ad hp ha
    rcases h2.own.2 with ⟨h0, h1⟩ | ⟨g, cp, cur, h0, _⟩
    · omega
    · cases h0
      cases ha
      have := h2.own.cells (g := g) rfl p (vs[p]'hp) (List.getElem?_eq_getElem hp)
      rw [List.getElem?_eq_getElem hp]; exact this
  refine ⟨pA, pcap2, tA, tcap2, rfl, rfl, h2.below, h2.nw, h2.sz, Nat.le_refl _, by simp, by simp, by simp, h2.rw0, h2.wlt, ⟨hMx, fun hm => ?_, fun _ _ _ => by simp, fun p ad hp ha => ?_, fun p hp => ?_⟩, fun ad ha hm => ?_, fun p hp ad ha hn => ?_, .of_own ko htx (fun _ _ => by simp), fun ad ha hn => ?_, fun o lo hi ho => by cases ho⟩
  · rcases h2.own.2 with ⟨h0, h1⟩ | ⟨g, cp, cur, h0, _⟩
    · omega
    · cases h0; exact ⟨_, rfl⟩
  · obtain ⟨a, c, x1, _, _⟩ := h2.rows p hp
    rw [hcell p ad hp ha, x1, List.getD_eq_getElem?_getD, x1]; rfl
  · obtain ⟨a, c, x1, x2, _⟩ := h2.rows p hp
    have e : vs.getD p undef = .slice a (zs p).length c := by rw [List.getD_eq_getElem?_getD, x1]; rfl
    rw [e]
    exact .of_own x2 (hl p hp) (fun _ _ => by simp)
  · subst ha
    rcases h2.own.2 with ⟨h0, h1⟩ | ⟨g, cp, cur, h0, _⟩
    · cases h0
    · cases h0; exact (h2.own.lt g rfl).2
  · obtain ⟨a, c, x1, x2, _⟩ := h2.rows p hp
    have e : vs.getD p undef = .slice a (zs p).length c := by rw [List.getD_eq_getElem?_getD, x1]; rfl
    rw [e] at ha
    have ha : a = some ad := ha
    subst ha
    have := x2.lt ad.block rfl
    exact this
  · subst ha
    exact (ko.lt ad.block rfl).2

theorem want_c (Wg : Nat) {pA : Option Addr} {M pcap : Nat} {pa : Nat → Option Addr} {pn pc : Nat → Nat} {zs : Nat → List Int} {tA : Option Addr} {tn tcap : Nat} {ts : List Int} (hn8 : tn * 8 ≤ 140737488355328) : ∃ q, ∀ w0, PR [] pA M pa pn pc zs w0 → IR [] tA tn ts w0 →
    CallsC Try.prog true (RC (0, false) Wg []) (DM (0, false) Wg [] [] []) 13 #[.slice pA M pcap, .slice tA tn tcap] q w0 fun v w' => KO [] w0 w0.heap.size v ((refM M zs ts).map iv) w' := by
  by_cases hM : M ≤ 64
  · refine ⟨(60 * (tn + 1) + 300) * tn + 100, fun w0 hPR hTS => ?_⟩
    have := refm_c Wg [] [] [] (by simp) pA M pcap pa pn pc zs tA tn tcap ts hPR hM hTS hn8 (by simp) (by simp)
    rw [refM, if_neg (by omega)]
    exact this
  · refine ⟨40, fun w0 _ _ => (refm_nil_c Wg [] [] [] (by omega)).mono fun v w' h => ?_⟩
    obtain ⟨rfl, hr⟩ := h
    rw [refM, if_pos (by omega)]
    exact ⟨Grows.of hr none, World.ownsRow_nil _ _ _ _, fun k hk => (by cases hk)⟩

section
variable (W : World) (qA : Option Addr) (M pcap : Nat) (uA : Option Addr) (tn tcap : Nat) (zs : Nat → List Int) (ts : List Int) {qa : Nat → Option Addr} {qc : Nat → Nat}

set_option maxRecDepth 100000 in
theorem cm_start (hQ : PR [] qA M qa (fun p => (zs p).length) qc zs W) (hpc : ∀ p, p < M → qa p = none → qc p = 0) (hp8 : ∀ p, p < M → (zs p).length * 8 ≤ 140737488355328) (hM24 : M * 24 ≤ 140737488355328) (hU : IR [] uA tn ts W) (huc : uA = none → tcap = 0) (hn8 : tn * 8 ≤ 140737488355328) (Wg : Nat) :
    FollowM Try.prog zi (0, false) Wg (PM0 W qA M pcap uA tn tcap zs ts) [] [] [] [] (G ((base 5).at ⟨#[.slice qA M pcap, .slice uA tn tcap, undef, undef, undef, undef, undef, undef, undef, undef, undef, undef, undef, undef, undef, undef, undef, undef, undef, undef, undef, undef, undef, undef, undef, undef, undef, undef, undef, undef, undef, undef, undef, undef, undef, undef, undef, undef, undef, undef, undef, undef, undef, undef, undef, undef, undef, undef, undef, undef, undef, undef, undef, undef, undef, undef, undef, undef, undef, undef, undef, undef, undef, undef, undef, undef, undef, undef, undef, undef, undef], []⟩ [.code body5]) []) W := by
  obtain ⟨qw, hwant⟩ := want_c Wg (pA := qA) (M := M) (pcap := pcap) (pa := qa) (pn := (fun p => (zs p).length)) (pc := qc) (zs := zs) (tA := uA) (tn := tn) (tcap := tcap) (ts := ts) hn8
  have hk : (base 5).kind ≠ .early := by decide
  have hF : RC (0, false) Wg [] W W := RC.refl _ _
  have hlt := hU.len
  have hut := hU.max
  have hMx := hQ.max
  refine followM_iff.2 ⟨((0 + 130 * M + 250) + qw + 3) + 40, ?_⟩
  show Goes Try.prog true (RC (0, false) Wg []) (DM (0, false) Wg [] [] []) (AtEnd (PM0 W qA M pcap uA tn tcap zs ts) [] [] []) _ _ _
  have hloop := fun want NW => loop5a Wg W NW want (refM M zs ts) qA M pcap qa (fun p => (zs p).length) qc zs uA tn tcap hQ hpc hp8 hM24 (AtEnd (PM0 W qA M pcap uA tn tcap zs ts) [] [] []) (0 + 150) (fun out vs u2 u3 u4 u8 u9 u10 u11 u12 u13 u14 u15 u16 u17 u18 u19 u20 u21 u22 u23 u24 u25 u26 u27 u28 u29 u30 u31 u32 u33 u34 u35 u36 u37 u38 u39 u40 u41 u42 u43 u44 u45 u46 u47 u48 u49 u50 u51 u52 u53 u54 u55 u56 u57 u58 u59 u60 u61 u62 u63 u64 u65 u66 u67 u68 u69 u70 w' hv hF => by
    simp only [head5a, L5a, ops5c, ops5d, ops5e, t5f, t5e, t5d, t5c, t5b, t5a, body5, Try.f5, Option.getD_some]
    (repeat (first | (first | ((with_reducible first | refine goes_rend ?_ ?_ | refine goes_sq ?_ ?_ | refine goes_sk ?_ ?_ | refine goes_bl ?_ ?_ | refine goes_lo ?_ ?_ | refine goes_ib ?_ ?_ | refine goes_il ?_ ?_ | refine goes_rt ?_ ?_ | refine goes_en ?_ ?_); exact termsM _ _ _ _ _; intro _ h₁; replace hF := (KB.rely hF) h₁; clear h₁) | (with_reducible refine goes_rg ?_ ?_; exact termsM _ _ _ _ _; intro _ h₁; replace hF := (KB.rely hF) h₁; clear h₁; simp only [List.size_toArray, List.length_cons, List.length_nil, Nat.reduceAdd, Nat.zero_add, List.range, List.range.loop])) | (refine Goes.step rfl (fun w₁ h₁ => ?_); replace hF := (KB.rely hF) h₁; clear h₁; refine goes_oper_k rfl rfl hk (fun K hK => ?_); skip; go_simp; refine hK _ _ ⟨DM_same (fun e he => ?_), ?_⟩; (focus (have hm := mem_listed he; (simp [go_sem, *] at hm); (try (subst hm; exact hv _)))); (clear hK K); (try walk_nrm))))
    (refine goes_cd (termsM (0, false) Wg [] [] []) false rfl (fun _ h₁ => ?_); replace hF := (KB.rely hF) h₁; clear h₁; simp only [if_true, if_false, Bool.false_eq_true, ↓reduceIte])
    (refine goes_c (termsM (0, false) Wg [] [] []) rfl (fun _ => stepG_exit rfl) (fun _ h₁ => ?_); replace hF := (KB.rely hF) h₁; clear h₁)
    (repeat (first | (first | ((with_reducible first | refine goes_rend ?_ ?_ | refine goes_sq ?_ ?_ | refine goes_sk ?_ ?_ | refine goes_bl ?_ ?_ | refine goes_lo ?_ ?_ | refine goes_ib ?_ ?_ | refine goes_il ?_ ?_ | refine goes_rt ?_ ?_ | refine goes_en ?_ ?_); exact termsM _ _ _ _ _; intro _ h₁; replace hF := (KB.rely hF) h₁; clear h₁) | (with_reducible refine goes_rg ?_ ?_; exact termsM _ _ _ _ _; intro _ h₁; replace hF := (KB.rely hF) h₁; clear h₁; simp only [List.size_toArray, List.length_cons, List.length_nil, Nat.reduceAdd, Nat.zero_add, List.range, List.range.loop])) | (refine Goes.step rfl (fun w₁ h₁ => ?_); replace hF := (KB.rely hF) h₁; clear h₁; refine goes_oper_k rfl rfl hk (fun K hK => ?_); skip; go_simp; refine hK _ _ ⟨DM_same (fun e he => ?_), ?_⟩; (focus (have hm := mem_listed he; (simp [go_sem, *] at hm); (try (subst hm; exact hv _)))); (clear hK K); (try walk_nrm))))
    refine Goes.mono (n := (0 + 40) + 30 + 3) ?_ (by omega)
    refine Goes.call (termsM _ _ _ _ _) rfl rfl hk rfl (nf := 30) (by (simp only [List.map_toArray, List.map_cons, List.map_nil, Act.eval, Array.getD_eq_getD_getElem?, List.getElem?_toArray, List.getElem?_cons_succ, List.getElem?_cons_zero, Option.getD_some]); exact ints_c Wg [] [] [] (by simp) (hF.ir hU) huc hn8 (by simp) (by simp)) ?_
    intro tv w'' hK
    obtain ⟨pA, pcap2, tA, tcap2, rfl, rfl, hC⟩ := hF.cms hv hMx (fun p hp => by have := hp8 p hp; omega) hK hlt hut
    clear hF hK
    have hF := hC
    clear hC
    try walk_nrm
    (refine Goes.step rfl (fun w₁ h₁ => ?_); replace hF := (CMS.rely hF) h₁; clear h₁; refine goes_oper_k rfl rfl hk (fun K hK => ?_); skip; go_simp; refine hK _ _ ⟨DM_same (fun e he => ?_), ?_⟩; (focus (have hm := mem_listed he; (simp [go_sem, *] at hm); (try (subst hm; exact hv _)))); (clear hK K); (try walk_nrm))
    (first | ((with_reducible first | refine goes_rend ?_ ?_ | refine goes_sq ?_ ?_ | refine goes_sk ?_ ?_ | refine goes_bl ?_ ?_ | refine goes_lo ?_ ?_ | refine goes_ib ?_ ?_ | refine goes_il ?_ ?_ | refine goes_rt ?_ ?_ | refine goes_en ?_ ?_); exact termsM _ _ _ _ _; intro _ h₁; replace hF := (CMS.rely hF) h₁; clear h₁) | (with_reducible refine goes_rg ?_ ?_; exact termsM _ _ _ _ _; intro _ h₁; replace hF := (CMS.rely hF) h₁; clear h₁; simp only [List.size_toArray, List.length_cons, List.length_nil, Nat.reduceAdd, Nat.zero_add, List.range, List.range.loop]))
    (first | ((with_reducible first | refine goes_rend ?_ ?_ | refine goes_sq ?_ ?_ | refine goes_sk ?_ ?_ | refine goes_bl ?_ ?_ | refine goes_lo ?_ ?_ | refine goes_ib ?_ ?_ | refine goes_il ?_ ?_ | refine goes_rt ?_ ?_ | refine goes_en ?_ ?_); exact termsM _ _ _ _ _; intro _ h₁; replace hF := (CMS.rely hF) h₁; clear h₁) | (with_reducible refine goes_rg ?_ ?_; exact termsM _ _ _ _ _; intro _ h₁; replace hF := (CMS.rely hF) h₁; clear h₁; simp only [List.size_toArray, List.length_cons, List.length_nil, Nat.reduceAdd, Nat.zero_add, List.range, List.range.loop]))
    (first | ((with_reducible first | refine goes_rend ?_ ?_ | refine goes_sq ?_ ?_ | refine goes_sk ?_ ?_ | refine goes_bl ?_ ?_ | refine goes_lo ?_ ?_ | refine goes_ib ?_ ?_ | refine goes_il ?_ ?_ | refine goes_rt ?_ ?_ | refine goes_en ?_ ?_); exact termsM _ _ _ _ _; intro _ h₁; replace hF := (CMS.rely hF) h₁; clear h₁) | (with_reducible refine goes_rg ?_ ?_; exact termsM _ _ _ _ _; intro _ h₁; replace hF := (CMS.rely hF) h₁; clear h₁; simp only [List.size_toArray, List.length_cons, List.length_nil, Nat.reduceAdd, Nat.zero_add, List.range, List.range.loop]))
    (refine Goes.step rfl (fun w₁ h₁ => ?_); replace hF := (CMS.rely hF) h₁; clear h₁; refine goes_oper_k rfl rfl hk (fun K hK => ?_); skip; go_simp; refine hK _ _ ⟨DM_same (fun e he => ?_), ?_⟩; (focus (have hm := mem_listed he; (simp [go_sem, *] at hm); (try (subst hm; exact hv _)))); (clear hK K); (try walk_nrm))
    (refine Goes.step rfl (fun w₁ h₁ => ?_); replace hF := (CMS.rely hF) h₁; clear h₁; refine goes_oper_k rfl rfl hk (fun K hK => ?_); skip; go_simp; refine hK _ _ ⟨DM_same (fun e he => ?_), ?_⟩; (focus (have hm := mem_listed he; (simp [go_sem, *] at hm); (try (subst hm; exact hv _)))); (clear hK K); (try walk_nrm))
    refine Goes.stop fun w₁ h₁ => ⟨rfl, want, NW, _, pA, tA, pcap2, tcap2, _, _, fun i => (#[.slice qA M pcap, .slice uA tn tcap, u2, u3, u4, want, .slice pA M pcap2, .int .i64 M, .slice tA tn tcap2, u9, u10, u11, u12, u13, u14, u15, u16, .int .i64 M, .slice qA M pcap, .int .i64 M, .bool false, u21, u22, u23, u24, u25, u26, u27, u28, u29, u30, .slice uA tn tcap, .slice tA tn tcap2, .slice pA M pcap2, .slice tA tn tcap2, u35, u36, u37, u38, u39, u40, u41, u42, u43, u44, u45, u46, u47, u48, u49, u50, u51, u52, u53, u54, u55, u56, u57, u58, u59, u60, u61, u62, u63, u64, u65, u66, u67, u68, u69, u70] : Array Value).getD i undef, hF.rely h₁, ?_⟩
    simp only [L5a, ops5c, ops5d, ops5e, t5f, t5e, t5d, t5c, t5b, t5a, body5, Try.f5, Option.getD_some]
    rfl) M 0 (by omega)
  simp only [head5a, L5a, ops5c, ops5d, ops5e, t5f, t5e, t5d, t5c, t5b, t5a, body5, Try.f5, Option.getD_some] at hloop ⊢
  (repeat (first | (first | ((with_reducible first | refine goes_rend ?_ ?_ | refine goes_sq ?_ ?_ | refine goes_sk ?_ ?_ | refine goes_bl ?_ ?_ | refine goes_lo ?_ ?_ | refine goes_ib ?_ ?_ | refine goes_il ?_ ?_ | refine goes_rt ?_ ?_ | refine goes_en ?_ ?_); exact termsM _ _ _ _ _; intro _ h₁; replace hF := (RC.trans hF) h₁; clear h₁) | (with_reducible refine goes_rg ?_ ?_; exact termsM _ _ _ _ _; intro _ h₁; replace hF := (RC.trans hF) h₁; clear h₁; simp only [List.size_toArray, List.length_cons, List.length_nil, Nat.reduceAdd, Nat.zero_add, List.range, List.range.loop])) | (refine Goes.step rfl (fun w₁ h₁ => ?_); replace hF := (RC.trans hF) h₁; clear h₁; refine goes_oper_k rfl rfl hk (fun K hK => ?_); skip; go_simp; refine hK _ _ ⟨DM_same (fun e he => ?_), ?_⟩; (focus (have hm := mem_listed he; (simp [go_sem, *] at hm); (try (subst hm; exact hv _)))); (clear hK K); (try walk_nrm))))
  refine Goes.mono (n := (0 + 130 * M + 250) + qw + 3) ?_ (by omega)
  refine Goes.call (termsM _ _ _ _ _) rfl rfl hk rfl (nf := qw) (by (simp only [List.map_toArray, List.map_cons, List.map_nil, Act.eval, Array.getD_eq_getD_getElem?, List.getElem?_toArray, List.getElem?_cons_succ, List.getElem?_cons_zero, Option.getD_some]); exact hwant _ (hQ.rely hF) (hU.rely hF)) ?_
  intro want w' hK
  have hF : KB W w'.heap.size want (refM M zs ts) zs (.slice none 0 0) [] w' := by
    have hs := hF.size
    have hg := hK.g.size
    refine ⟨⟨hK.g.os.trans hF.os, hK.g.tape.trans hF.tape, hK.g.output.trans hF.output, by omega, fun b hb => (hK.g.block b (by omega) (by simp) (by simp)).trans (hF.block b (by simp))⟩, by omega, Nat.le_refl _, ?_, fun k hk => (hK.own.lt k hk).2, ⟨rfl, .inl ⟨rfl, rfl⟩⟩, fun p hp => by simp at hp⟩
    have := own_base (lo' := W.heap.size) hK.own (fun k hk => by have := (hK.own.lt k hk).1; omega)
    rw [List.length_map] at this
    exact this
  clear hK
  try walk_nrm
  (refine Goes.step rfl (fun w₁ h₁ => ?_); replace hF := (KB.rely hF) h₁; clear h₁; refine goes_oper_k rfl rfl hk (fun K hK => ?_); skip; go_simp; refine hK _ _ ⟨DM_same (fun e he => ?_), ?_⟩; (focus (have hm := mem_listed he; (simp [go_sem, *] at hm); (try (subst hm; exact hv _)))); (clear hK K); (try walk_nrm))
  repeat (first | ((with_reducible first | refine goes_rend ?_ ?_ | refine goes_sq ?_ ?_ | refine goes_sk ?_ ?_ | refine goes_bl ?_ ?_ | refine goes_lo ?_ ?_ | refine goes_ib ?_ ?_ | refine goes_il ?_ ?_ | refine goes_rt ?_ ?_ | refine goes_en ?_ ?_); exact termsM _ _ _ _ _; intro _ h₁; replace hF := (KB.rely hF) h₁; clear h₁) | (with_reducible refine goes_rg ?_ ?_; exact termsM _ _ _ _ _; intro _ h₁; replace hF := (KB.rely hF) h₁; clear h₁; simp only [List.size_toArray, List.length_cons, List.length_nil, Nat.reduceAdd, Nat.zero_add, List.range, List.range.loop]))
  (refine Goes.step rfl (fun w₁ h₁ => ?_); replace hF := (KB.rely hF) h₁; clear h₁; refine goes_oper_k rfl rfl hk (fun K hK => ?_); skip; go_simp; refine hK _ _ ⟨DM_same (fun e he => ?_), ?_⟩; (focus (have hm := mem_listed he; (simp [go_sem, *] at hm); (try (subst hm; exact hv _)))); (clear hK K); (try walk_nrm))
  repeat (first | ((with_reducible first | refine goes_rend ?_ ?_ | refine goes_sq ?_ ?_ | refine goes_sk ?_ ?_ | refine goes_bl ?_ ?_ | refine goes_lo ?_ ?_ | refine goes_ib ?_ ?_ | refine goes_il ?_ ?_ | refine goes_rt ?_ ?_ | refine goes_en ?_ ?_); exact termsM _ _ _ _ _; intro _ h₁; replace hF := (KB.rely hF) h₁; clear h₁) | (with_reducible refine goes_rg ?_ ?_; exact termsM _ _ _ _ _; intro _ h₁; replace hF := (KB.rely hF) h₁; clear h₁; simp only [List.size_toArray, List.length_cons, List.length_nil, Nat.reduceAdd, Nat.zero_add, List.range, List.range.loop]))
  (refine Goes.step rfl (fun w₁ h₁ => ?_); replace hF := (KB.rely hF) h₁; clear h₁; refine goes_oper_k rfl rfl hk (fun K hK => ?_); skip; go_simp; refine hK _ _ ⟨DM_same (fun e he => ?_), ?_⟩; (focus (have hm := mem_listed he; (simp [go_sem, *] at hm); (try (subst hm; exact hv _)))); (clear hK K); (try walk_nrm))
  (first | ((with_reducible first | refine goes_rend ?_ ?_ | refine goes_sq ?_ ?_ | refine goes_sk ?_ ?_ | refine goes_bl ?_ ?_ | refine goes_lo ?_ ?_ | refine goes_ib ?_ ?_ | refine goes_il ?_ ?_ | refine goes_rt ?_ ?_ | refine goes_en ?_ ?_); exact termsM _ _ _ _ _; intro _ h₁; replace hF := (KB.rely hF) h₁; clear h₁) | (with_reducible refine goes_rg ?_ ?_; exact termsM _ _ _ _ _; intro _ h₁; replace hF := (KB.rely hF) h₁; clear h₁; simp only [List.size_toArray, List.length_cons, List.length_nil, Nat.reduceAdd, Nat.zero_add, List.range, List.range.loop]))
  (first | ((with_reducible first | refine goes_rend ?_ ?_ | refine goes_sq ?_ ?_ | refine goes_sk ?_ ?_ | refine goes_bl ?_ ?_ | refine goes_lo ?_ ?_ | refine goes_ib ?_ ?_ | refine goes_il ?_ ?_ | refine goes_rt ?_ ?_ | refine goes_en ?_ ?_); exact termsM _ _ _ _ _; intro _ h₁; replace hF := (KB.rely hF) h₁; clear h₁) | (with_reducible refine goes_rg ?_ ?_; exact termsM _ _ _ _ _; intro _ h₁; replace hF := (KB.rely hF) h₁; clear h₁; simp only [List.size_toArray, List.length_cons, List.length_nil, Nat.reduceAdd, Nat.zero_add, List.range, List.range.loop]))
  (first | ((with_reducible first | refine goes_rend ?_ ?_ | refine goes_sq ?_ ?_ | refine goes_sk ?_ ?_ | refine goes_bl ?_ ?_ | refine goes_lo ?_ ?_ | refine goes_ib ?_ ?_ | refine goes_il ?_ ?_ | refine goes_rt ?_ ?_ | refine goes_en ?_ ?_); exact termsM _ _ _ _ _; intro _ h₁; replace hF := (KB.rely hF) h₁; clear h₁) | (with_reducible refine goes_rg ?_ ?_; exact termsM _ _ _ _ _; intro _ h₁; replace hF := (KB.rely hF) h₁; clear h₁; simp only [List.size_toArray, List.length_cons, List.length_nil, Nat.reduceAdd, Nat.zero_add, List.range, List.range.loop]))
  refine Goes.mono (n := 0 + 150 + 130 * M) ?_ (by omega)
  exact hloop want _ (.slice none 0 0) [] _ _ _ _ _ _ _ _ _ _ _ _ _ _ _ _ _ _ _ _ _ _ _ _ _ _ _ _ _ _ _ _ _ _ _ _ _ _ _ _ _ _ _ _ _ _ _ _ _ _ _ _ _ _ _ _ _ _ _ _ _ _ _ _ _ _ _ rfl hF
end
end Go.Proofs.Ytplndihadjfliaa.Mix
/-
  CREW: CrewMerge: one good run from every start.
-/
set_option linter.unusedSimpArgs false
set_option linter.unusedVariables false
set_option maxHeartbeats 2000000
namespace Go.Proofs.Ytplndihadjfliaa.Mix
open Go Go.Conc Go.ConcN Go.Proofs Go.RowKit

/-- ON BY A CALL OF MERGE. -/
theorem Came.merge {Post Post' : List Nat → List Nat → List Nat → Goroutine → World → Prop} {m₀ : Machine} {t₀ : Trace} (h : Came Try.prog zi Post m₀ t₀) {M : Nat} {zs : Nat → List Int} {ts : List Int} (hM : M ≤ 64)
    (row : ∀ T ch GG g w, AtEnd Post T ch GG g w → ∃ (pa : Nat → Option Addr), (∀ b ∈ ch, b < w.heap.size) ∧ FollowM Try.prog zi (47, true) w.heap.size Post' (msc (w.heap.size + 1) w.heap.size M (fun p => w.heap.size + 3 + p) (fun p => vblk (pa p) ((zs p).length)) (fun p => (zs p).map iv) 0 ((mrun M zs ts).map lift) .mg) T ch GG g w) : Came Try.prog zi Post' m₀ t₀ :=
  h.phase fun a T g w R hsz hck hend => by
    obtain ⟨pa, hcb, hf⟩ := row T a.ch a.G g w hend
    refine ⟨(47, true), KStar a.n (w.heap.size + 1) w.heap.size M (fun p => w.heap.size + 3 + p) (fun p => vblk (pa p) ((zs p).length)) (fun p => (zs p).map iv), rankS, _, kstar_law, hf, ?_⟩
    exact kstar_start R (by omega) (fun p q _ _ e => by omega) (fun p _ e => by omega) (fun p _ hc => by have := hcb _ (hck _ hc); omega) (fun hc => by have := hcb _ (hck _ hc); omega) (mrun_ok ts zs)

theorem cm_enter (qA uA : Option Addr) (M pcap tn tcap : Nat) : Frame.enter Try.prog 5 #[.slice qA M pcap, .slice uA tn tcap] .normal = (base 5).at ⟨#[.slice qA M pcap, .slice uA tn tcap, undef, undef, undef, undef, undef, undef, undef, undef, undef, undef, undef, undef, undef, undef, undef, undef, undef, undef, undef, undef, undef, undef, undef, undef, undef, undef, undef, undef, undef, undef, undef, undef, undef, undef, undef, undef, undef, undef, undef, undef, undef, undef, undef, undef, undef, undef, undef, undef, undef, undef, undef, undef, undef, undef, undef, undef, undef, undef, undef, undef, undef, undef, undef, undef, undef, undef, undef, undef, undef], []⟩ [.code body5] := by
  rw [enter_at (c := body5) _ Try.func5 (by simp [Try.f5, body5])]
  have e : (#[.slice qA M pcap, .slice uA tn tcap] : Array Value) ++ Array.replicate (Try.f5.ntmps - (#[.slice qA M pcap, .slice uA tn tcap] : Array Value).size) undef = #[.slice qA M pcap, .slice uA tn tcap, undef, undef, undef, undef, undef, undef, undef, undef, undef, undef, undef, undef, undef, undef, undef, undef, undef, undef, undef, undef, undef, undef, undef, undef, undef, undef, undef, undef, undef, undef, undef, undef, undef, undef, undef, undef, undef, undef, undef, undef, undef, undef, undef, undef, undef, undef, undef, undef, undef, undef, undef, undef, undef, undef, undef, undef, undef, undef, undef, undef, undef, undef, undef, undef, undef, undef, undef, undef, undef] := by simp only [Try.f5]; walk_nrm
  rw [e]

theorem refM_len (M : Nat) (zs : Nat → List Int) (ts : List Int) : (refM M zs ts).length ≤ ts.length := by
  unfold refM
  split
  · simp
  · exact mref_len ts []

/-- ONE GOOD RUN from every start. -/
theorem cm_runs (W : World) (qA uA : Option Addr) (M pcap tcap : Nat) (zs : Nat → List Int) (ts : List Int) {qa : Nat → Option Addr} {qc : Nat → Nat} (hQ : PR [] qA M qa (fun p => (zs p).length) qc zs W) (hpc : ∀ p, p < M → qa p = none → qc p = 0) (hp8 : ∀ p, p < M → (zs p).length * 8 ≤ 140737488355328) (hM24 : M * 24 ≤ 140737488355328)
    (hU : IR [] uA ts.length ts W) (huc : uA = none → tcap = 0) (hn8 : (ts.length + 40) * 8 ≤ 140737488355328) :
    ∃ n last o w' t', runNT Try.prog (n + 1) (solo (G (Frame.enter Try.prog 5 #[.slice qA M pcap, .slice uA ts.length tcap] .normal) []) W) #[] = (.ended o w', t') ∧ runN Try.prog n (solo (G (Frame.enter Try.prog 5 #[.slice qA M pcap, .slice uA ts.length tcap] .normal) []) W) = .next last ∧
      step Try.prog last = .ended o w' ∧ Go.Conc.Good Try.prog (fun v w' => v = .bool true ∧ Below W.heap.size W w') last o w' t' := by
  rw [cm_enter]
  have h0 := came_start (cm_start W qA M pcap uA ts.length tcap zs ts hQ hpc hp8 hM24 hU huc (by omega) 0)
  have hl := refM_len M zs ts
  have hend := fun N T ch GG g w => cm_end W qA M pcap uA ts.length tcap zs ts hQ hU (by omega) N T ch GG g w
  by_cases h64 : M ≤ 64
  · have h1 := h0.merge h64 fun T ch GG g w h => row1 W qA M pcap uA ts.length tcap zs ts h64 (by omega) T ch GG g w h
    have h2 := h1.merge h64 fun T ch GG g w h => row2 W qA M pcap uA ts.length tcap zs ts h64 (by omega) T ch GG g w h
    have h3 := h2.merge h64 fun T ch GG g w h => row3 W qA M pcap uA ts.length tcap zs ts h64 (by omega) T ch GG g w h
    exact (h3.walk fun T ch GG g w _ h => hend _ T ch GG g w h).good
  · have h1 := h0.walk fun T ch GG g w _ h => nil1 W qA M pcap uA ts.length tcap zs ts (by omega) _ T ch GG g w h
    have h2 := h1.walk fun T ch GG g w _ h => nil2 W qA M pcap uA ts.length tcap zs ts (by omega) _ T ch GG g w h
    have h3 := h2.walk fun T ch GG g w _ h => nil3 W qA M pcap uA ts.length tcap zs ts (by omega) _ T ch GG g w h
    exact (h3.walk fun T ch GG g w _ h => hend _ T ch GG g w h).good
end Go.Proofs.Ytplndihadjfliaa.Mix
