/- ArenaPieces: the walk. -/
import Derived.Test.YtebahglmdifmpaaP2
import Derived.Test.YtebahglmdifmpaaL9
import Derived.Test.YtebahglmdifmpaaV9c
import Derived.Test.YtebahglmdifmpaaT2
set_option linter.unusedVariables false
set_option linter.unusedSimpArgs false
set_option maxRecDepth 10000
namespace Go.Proofs.Ytebahglmdifmpaa
open Go Go.Proofs.Ytebahglmdifmpaa.Vc
namespace PA
abbrev opTy : Ty := .pair (.int .i64) (.pair (.int .i64) (.pair (.int .i64) (.pair (.int .i64) .unit)))
abbrev Op4 := Int × Int × Int × Int
def InO (w : World) (A : Option Addr) (n : Nat) (ops : List Op4) : Prop :=
  n = ops.length ∧ (∀ p ∈ ops, -9223372036854775808 ≤ p.2.2.1 ∧ p.2.2.1 ≤ 9223372036854775807) ∧ (0 < n → ∃ b o, A = some ⟨b, o, none⟩ ∧ ∀ i, i < n →
    w.cell? ⟨b, o + i * 4, none⟩ = some (.int .i64 (ops.getD i (0, 0, 0, 0)).1) ∧ w.cell? ⟨b, o + i * 4 + 1, none⟩ = some (.int .i64 (ops.getD i (0, 0, 0, 0)).2.1) ∧ w.cell? ⟨b, o + i * 4 + 1 + 1, none⟩ = some (.int .i64 (ops.getD i (0, 0, 0, 0)).2.2.1) ∧ w.cell? ⟨b, o + i * 4 + 1 + 1 + 1, none⟩ = some (.int .i64 (ops.getD i (0, 0, 0, 0)).2.2.2))
theorem inO {w : World} {A : Option Addr} {n c : Nat} {l : List (Den opTy)} {F : List Nat} (h : In w (.sl opTy) [.slice A n c] l F) : InO w A n (l.map fun x => ((x.1, x.2.1, x.2.2.1, x.2.2.2.1) : Op4)) := by
  obtain ⟨h1, _, h2⟩ := h.elems
  refine ⟨by simpa using h1, ?_, fun hn => ?_⟩
  · intro p hp
    obtain ⟨y, hy, rfl⟩ := List.mem_map.1 hp
    obtain ⟨i, hi, rfl⟩ := List.mem_iff_getElem.1 hy
    obtain ⟨b, o, _, h3⟩ := h2 (by omega)
    obtain ⟨es, G, _, _, e3, _⟩ := h3 i hi
    obtain ⟨_, _, _, _, _, _, _, _, _, _, _, _, _, _, _, _, _, _, _, _, _, _, _, ⟨_, e4, _⟩, _⟩ := e3
    exact wf_i64 e4
  · obtain ⟨b, o, rfl, h3⟩ := h2 hn
    refine ⟨b, o, rfl, fun i hi => ?_⟩
    have hi2 : i < l.length := by omega
    obtain ⟨es, G, e1, e2, e3, _⟩ := h3 i hi2
    have e4 := e3.flat rfl
    have e5 : (l.map fun x => ((x.1, x.2.1, x.2.2.1, x.2.2.2.1) : Op4)).getD i (0, 0, 0, 0) = (l[i].1, l[i].2.1, l[i].2.2.1, l[i].2.2.2.1) := by simp [List.getD_eq_getElem?_getD, hi2]
    rw [e5]
    subst e4
    exact ⟨e2 0 (by decide), e2 1 (by decide), e2 2 (by decide), e2 3 (by decide)⟩
theorem InO.fr {w w' : World} {A : Option Addr} {n : Nat} {ops : List Op4} (h : InO w A n ops) (hf : Fr [] w w') : InO w' A n ops := by
  refine ⟨h.1, h.2.1, fun hn => ?_⟩
  obtain ⟨b, o, rfl, h2⟩ := h.2.2 hn
  refine ⟨b, o, rfl, fun i hi => ?_⟩
  obtain ⟨h3, h4, h5, h6⟩ := h2 i hi
  exact ⟨hf.cell h3, hf.cell h4, hf.cell h5, hf.cell h6⟩
/-- What one call does. -/
def Moved (kind : Int) (was : List Int) (L : List B) (ws' : List Int) (L' : List B) (want n to : Int) : Prop :=
  (n = 0 ∧ ws' = was ∧ -9223372036854775808 ≤ to ∧ to ≤ 9223372036854775807) ∨
  (0 < n ∧ kind = 1 ∧ 0 ≤ to ∧ to + n ≤ was.length ∧ ws' = CM.fillN was to.toNat want n.toNat ∧ (takens L').Perm ((to, n) :: takens L)) ∨
  (0 < n ∧ kind ≠ 1 ∧ 0 ≤ to ∧ to + n ≤ was.length ∧ ws' = CM.fillN was to.toNat want n.toNat ∧ (takens L).Perm ((to, n) :: takens L'))
theorem fill_changed {was : List Int} {want n to : Int} (hl : was.length ≤ 4000) (h0 : 0 ≤ to) (h1 : 0 < n) (h2 : to + n ≤ was.length) (i : Nat) :
    (CM.fillN was to.toNat want n.toNat).getD i 0 = if to ≤ (i : Int) ∧ (i : Int) < IntKind.i64.wrap (to + n) then want else was.getD i 0 := by
  rw [i64_id (by omega) (by omega), fillN_get _ _ _ _ _ (by omega)]
  by_cases h : to.toNat ≤ i ∧ i < to.toNat + n.toNat
  · rw [if_pos h, if_pos (by omega)]
  · rw [if_neg h, if_neg (by omega)]
theorem Moved.changed {kind : Int} {was : List Int} {L : List B} {ws' : List Int} {L' : List B} {want n to : Int} (h : Moved kind was L ws' L' want n to) (hl : was.length ≤ 4000) (i : Nat) :
    ws'.getD i 0 = if to ≤ (i : Int) ∧ (i : Int) < IntKind.i64.wrap (to + n) then want else was.getD i 0 := by
  rcases h with ⟨rfl, rfl, h1, h2⟩ | ⟨h1, _, h3, h4, rfl, _⟩ | ⟨h1, _, h3, h4, rfl, _⟩
  · rw [Int.add_zero, i64_id h1 h2, if_neg (by omega)]
  · exact fill_changed hl h3 h1 h4 i
  · exact fill_changed hl h3 h1 h4 i
theorem keysOf {L : List B} {st e : Int} (ht : Tiled st e L) : Keys (takens L) := (takens_asc ht.asc).imp (fun h => by omega)
theorem sizeL_mem {L : List B} {st e x n : Int} (ht : Tiled st e L) (h : (x, n) ∈ takens L) : sizeL x L = n := by
  rw [sizeL_eq]
  cases hG : giveL x L with
  | none => exact absurd h (giveL_none.1 hG n)
  | some r =>
    obtain ⟨m, L1⟩ := r
    obtain ⟨_, g2, _⟩ := giveL_some hG ht
    exact (keysOf ht).one (g2.symm.mem_iff.1 List.mem_cons_self) h
theorem sizeL_not {L : List B} {x : Int} (h : ∀ n, (x, n) ∉ takens L) : sizeL x L = 0 := by
  rw [sizeL_eq, giveL_none.2 h]
theorem fitsL_in (n : Int) : ∀ {L : List B} {st e : Int}, Tiled st e L → fitsL n L = -1 ∨ (st ≤ fitsL n L ∧ fitsL n L ≤ e)
  | [], _, _, _ => .inl rfl
  | b :: L, st, e, ⟨h1, h2, h3⟩ => by
    have hle := h3.le
    rw [fitsL]
    split
    · exact .inr (by omega)
    · rcases fitsL_in n h3 with h | h
      · exact .inl h
      · exact .inr (by omega)
section
variable (w : World) (N a mb gb : Nat) (st : Int)
def K1 (len : Nat) (b : Bool) (x : Int) (w' : World) (r : Nat) : Prop :=
  b = true ∧ ∃ (i k : Nat) (ws : List Int) (L : List B), x = (i : Int) ∧ i + r = len ∧ k ≤ 1 + 3 * i ∧ ws.length = N ∧ St [] w w' [arC a mb gb NIL 0 st ws L k]
def M1 (q i : Nat) (oq : Array Value) (kind : Int) (was : List Int) (L : List B) (v1 v2 : Value) (want n to : Int) (w' : World) : Prop :=
  ∃ (k : Nat) (ws' : List Int) (L' : List B), k ≤ 3 + 3 * i ∧ ws'.length = N ∧ Moved kind was L ws' L' want n to ∧ St [] w w' [intsC v2 was, slC v1 L, Chunk.blk q oq 90, arC a mb gb NIL 0 st ws' L' k]
end
theorem pieces {w : World} {x0 x1 : Int} {A : Option Addr} {n c : Nat} {ops : List Op4} (h : InO w A n ops) (hn : n ≤ 1500000) :
    Calls Try.prog 8 #[.int .i64 x0, .int .i64 x1, .slice A n c] w fun e w' => e = .returned (.bool true) ∧ Fr [] w w' := by
  refine Calls.mono (f8.calls (R := fun v w' => v = .bool true ∧ Fr [] w w') ?_) ?_
  · dsimp only [f8.VC]
    have hl := h.1
    refine Calls.mono ((St.start w).step0 (LV.lively _)) ?_
    rintro _ w1 ⟨rfl, hS1⟩
    refine ⟨_, rfl, ?_⟩
    refine Calls.mono (hS1.step0 (LW.at_ w1 x0 (n := 120) (by decide) (by decide))) ?_
    rintro _ w2 ⟨rfl, hS2⟩
    have har := LW.atI_range x0 (n := 120) (by decide)
    obtain ⟨q, hq⟩ : ∃ q : Nat, LW.atI x0 120 = (q : Int) := ⟨(LW.atI x0 120).toNat, by omega⟩
    rw [hq] at har ⊢
    have hN : IntKind.i64.wrap (1 + (q : Int)) = ((q + 1 : Nat) : Int) := by rw [i64_id (by omega) (by omega)]; omega
    obtain ⟨N, hNq⟩ : ∃ N : Nat, N = q + 1 := ⟨_, rfl⟩
    refine ⟨_, rfl, ?_⟩
    rw [hN, ← hNq]
    have hN1 : 1 ≤ N := by omega
    have hN2 : N ≤ 120 := by omega
    refine Calls.mono (hS2.step0 (LW.at_ w2 x1 (n := N) (by omega) (by omega))) ?_
    rintro _ w3 ⟨rfl, hS3⟩
    have har1 := LW.atI_range x1 (n := N) (by omega)
    obtain ⟨st, hst⟩ : ∃ q : Nat, LW.atI x1 N = (q : Int) := ⟨(LW.atI x1 N).toNat, by omega⟩
    rw [hst] at har1 ⊢
    refine ⟨_, rfl, ?_⟩
    refine Calls.mono (newMem hS3 hN1 (by omega)) ?_
    rintro _ w4 ⟨mb, gb, rfl, hS4⟩
    refine ⟨_, _, rfl, sel_false rfl ?_⟩
    refine Calls.mono (newArena hS4 (st := st) (by simp; omega) (by simp; omega)) ?_
    rintro _ w5 ⟨a, rfl, hS5⟩
    refine ⟨_, _, rfl, sel_false (by simp) (sel_false rfl ?_)⟩
    refine ⟨K1 w N a mb gb st n, ⟨n, rfl, 0, 1, _, _, rfl, by omega, by omega, by simp, hS5⟩, ?_⟩
    clear hS1 hS2 hS3 hS4 hS5
    rintro d _ _ w6 r ⟨rfl, i, k, ws, L, rfl, hir, hk, hwl, hS⟩
    refine sel_of (fun hd => sel_true rfl ?_) (fun hd => ⟨rfl, hS.frame⟩)
    have hi : i < n := by simpa using hd
    have hi1 : IntKind.i64.wrap ((i : Int) + 1) = ((i + 1 : Nat) : Int) := by rw [i64_id (by omega) (by omega)]; omega
    obtain ⟨hT0, hAp⟩ := okS hS 0 rfl
    have hO := h.fr hS.frame
    obtain ⟨b, o, rfl, hc⟩ := hO.2.2 (by omega)
    obtain ⟨c1, c2, c3, c4⟩ := hc i hi
    have hzr := hO.2.1 (ops.getD i (0, 0, 0, 0)) (by rw [List.getD_eq_getElem?_getD, List.getElem?_eq_getElem (by omega)]; exact List.getElem_mem _)
    generalize ops.getD i (0, 0, 0, 0) = op at *
    obtain ⟨kind, y1, z, y3⟩ := op
    dsimp only at c1 c2 c3 c4 hzr
    refine ⟨by omega, by omega, needPtr_of rfl ⟨_, by rw [Int.toNat_natCast]; exact c1, _, by rw [Int.toNat_natCast]; exact c2, _, by rw [Int.toNat_natCast]; exact c3, _, by rw [Int.toNat_natCast]; exact c4, ?_⟩⟩
    clear hc c1 c2 c3 c4 hO
    have hS7 := hS.alloc #[.int .i64 0, .int .i64 0, .int .i64 0, .int .i64 0] 90
    generalize World.alloc w6 (.cells #[.int .i64 0, .int .i64 0, .int .i64 0, .int .i64 0] 90) = w7 at *
    generalize w6.heap.size = qb at *
    refine ⟨(hS7.blk 0 rfl).can (by simp), ?_⟩
    have hS8 := hS7.over 0 rfl [.int .i64 kind, .int .i64 y1, .int .i64 z, .int .i64 y3] rfl
    generalize setCs w7 qb 0 [.int .i64 kind, .int .i64 y1, .int .i64 z, .int .i64 y3] = w8 at *
    obtain ⟨oq, hoq⟩ : ∃ oq : Array Value, oq = #[.int .i64 kind, .int .i64 y1, .int .i64 z, .int .i64 y3] := ⟨_, rfl⟩
    have hS8 : St [] w w8 [Chunk.blk qb oq 90, arC a mb gb NIL 0 st ws L k] := by rw [hoq]; exact hS8
    have kin : ∀ {w' : World} {K : List Chunk} (j : Nat), St [] w w' K → K[j]? = some (Chunk.blk qb oq 90) → w'.cell? ⟨qb, 0, none⟩ = some (.int .i64 kind) ∧ w'.cell? ⟨qb, 2, none⟩ = some (.int .i64 z) := by
      intro w' K j hS hj
      exact ⟨(hS.blk j hj).cell (by rw [hoq]; rfl), (hS.blk j hj).cell (by rw [hoq]; rfl)⟩
    clear hoq hS7
    refine Calls.mono (blocksS hS8 1 rfl (by omega) (by omega) (by omega) (by omega)) ?_
    rintro _ w9 ⟨A1, n1, cp1, rfl, hS9⟩
    refine ⟨_, _, _, rfl, ?_⟩
    have hS9 : St [] w w9 [slC (.slice A1 n1 cp1) L, Chunk.blk qb oq 90, arC a mb gb NIL 0 st ws L (k + 1)] := hS9
    have hWs := wordsS hS9 2 rfl (by omega)
    rw [hwl] at hWs
    refine Calls.mono hWs ?_
    rintro _ w10 ⟨A2, n2, cp2, rfl, hS10⟩
    refine ⟨_, _, _, _, rfl, ?_⟩
    have hT : Tiled st N L := by rw [← hwl]; exact hT0
    have hLl := hT.len
    refine ⟨fun b w' => b = false ∧ St [] w w' [intsC (.slice A2 n2 cp2) ws, slC (.slice A1 n1 cp1) L, Chunk.blk qb oq 90, arC a mb gb NIL 0 st ws L (k + 1)], sel_false (by simp) ?_, ?_⟩
    · refine Calls.mono (hS10.step0 (coversC (rdB hS10 1 rfl) hT hAp (by omega) (by omega))) ?_
      rintro _ w11 ⟨rfl, hS11⟩
      exact ⟨_, rfl, rfl, rfl, hS11⟩
    clear hS8 hS9 hS10 hWs
    rintro d1 _ w12 ⟨rfl, hS⟩
    have hn1 := (rdB hS 1 rfl).1
    refine sel_false rfl ⟨M1 w N a mb gb st qb i oq kind ws L (.slice A1 n1 cp1) (.slice A2 n2 cp2), ?_, ?_⟩
    · refine ⟨_, (kin 2 hS rfl).1, sel_of (fun hk1 => ?take) (fun hk1 => ?give)⟩
      case take =>
        have hk1 : kind = 1 := by simpa using hk1
        refine ⟨_, (kin 2 hS rfl).2, ?_⟩
        refine Calls.mono (takeS hS 3 rfl (by omega) (by omega) (by omega) z hzr.2) ?_
        rintro _ w13 ⟨rfl, hS13⟩
        refine ⟨_, _, rfl, _, (kin 2 hS13 rfl).2, ?_⟩
        refine Calls.mono (hS13.step0 (fitsC (rdB hS13 1 rfl) (by omega) z)) ?_
        rintro _ w14 ⟨rfl, hS14⟩
        refine ⟨_, rfl, ?_⟩
        have cz := (kin 2 hS14 rfl).2
        refine ⟨fun b w' => b = false ∧ w' = w14, ?_, ?_⟩
        · refine ⟨_, cz, ?_⟩
          by_cases hz : z < 1
          · have e1 : resT z L = (0, 1) := by unfold resT; rw [if_pos hz]
            rw [e1]
            exact sel_true (by simpa using hz) (sel_false (by simp) (sel_false (by simp) ⟨_, cz, sel_false (by simp; omega) ⟨_, cz, sel_false (by simp; omega) ⟨rfl, rfl, rfl⟩⟩⟩))
          · rw [fitsL_eq]
            cases hTk : takeL z L with
            | none =>
              have e1 : resT z L = (0, 150) := by unfold resT; rw [if_neg hz, hTk]
              rw [e1]
              exact sel_false (by simp; omega) ⟨_, cz, sel_true (by simp; omega) (sel_true rfl (sel_false (by simp) (sel_false (by simp) ⟨_, cz, sel_true (by simp; omega) (sel_false rfl ⟨rfl, rfl, rfl⟩)⟩)))⟩
            | some rr =>
              obtain ⟨at_, L'⟩ := rr
              have e1 : resT z L = (at_, 0) := by unfold resT; rw [if_neg hz, hTk]
              have hat : 0 ≤ at_ := by
                obtain ⟨_, _, t3, _⟩ := takeL_some (by omega) hTk hT
                omega
              rw [e1]
              have ea : atOf (some (at_, L')) = at_ := rfl
              rw [ea]
              exact sel_false (by simp; omega) ⟨_, cz, sel_true (by simp; omega) (sel_false (by simp; omega) ⟨_, cz, sel_true (by simp; omega) (sel_true (by simpa using hat) (sel_false (by simp) ⟨rfl, by simp, rfl⟩))⟩)⟩
        rintro d2 _ _ ⟨rfl, rfl⟩
        refine sel_false rfl ?_
        rw [fitsL_eq]
        by_cases hz : z < 1
        · have e1 : resT z L = (0, 1) := by unfold resT; rw [if_pos hz]
          have e2 : nextT z L = L := by unfold nextT; rw [if_pos hz]
          have e3 : wordsT z L ws = ws := by unfold wordsT; rw [if_pos hz]
          rw [e2, e3] at hS14
          rw [e1]
          refine sel_false (by simp) ⟨rfl, k + 1 + 1, ws, L, by omega, hwl, .inl ⟨rfl, rfl, ?_, ?_⟩, hS14⟩
          · have := fitsL_in z hT
            rw [fitsL_eq] at this
            omega
          · have := fitsL_in z hT
            rw [fitsL_eq] at this
            omega
        · cases hTk : takeL z L with
          | none =>
            have e1 : resT z L = (0, 150) := by unfold resT; rw [if_neg hz, hTk]
            have e2 : nextT z L = L := by unfold nextT; rw [if_neg hz, hTk]; rfl
            have e3 : wordsT z L ws = ws := by unfold wordsT; rw [if_neg hz, hTk]
            rw [e2, e3] at hS14
            rw [e1]
            exact sel_false (by simp) ⟨rfl, k + 1 + 1, ws, L, by omega, hwl, .inl ⟨rfl, rfl, by decide, by decide⟩, hS14⟩
          | some rr =>
            obtain ⟨at_, L'⟩ := rr
            have e1 : resT z L = (at_, 0) := by unfold resT; rw [if_neg hz, hTk]
            have e2 : nextT z L = L' := by unfold nextT; rw [if_neg hz, hTk]; rfl
            have e3 : wordsT z L ws = CM.fillN ws at_.toNat 0 z.toNat := by unfold wordsT; rw [if_neg hz, hTk]
            obtain ⟨t1, t2, t3, t4, _⟩ := takeL_some (by omega) hTk hT
            have hlen := wordsT_len z L ws
            rw [e2] at hS14
            rw [e1]
            exact sel_true (by simp) ⟨_, cz, rfl, k + 1 + 1, _, L', by omega, by rw [hlen]; exact hwl, .inr (.inl ⟨by omega, hk1, show (0 : Int) ≤ at_ by omega, by show at_ + z ≤ _; omega, e3, t2⟩), hS14⟩
      case give =>
        have hk1 : kind ≠ 1 := by simpa using hk1
        have rem : ∀ d3 : Env, ∀ w16, (St [] w w16 [intsC (.slice A2 n2 cp2) ws, slC (.slice A1 n1 cp1) L, Chunk.blk qb oq 90, arC a mb gb NIL 0 st ws L (k + 1)]) → True := fun _ _ _ => trivial
        refine ⟨fun b w' => w' = w12, sel_of (fun _ => ⟨rfl, rfl⟩) (fun _ => ⟨rfl, rfl⟩), ?_⟩
        rintro d3 b149 w12 rfl
        refine sel_of (fun _ => ?_) (fun _ => ⟨rfl, k + 1, ws, L, by omega, hwl, .inl ⟨rfl, rfl, by decide, by decide⟩, hS⟩)
        refine ⟨_, (kin 2 hS rfl).2, fun to w' => -9223372036854775808 ≤ to ∧ to ≤ 9223372036854775807 ∧ St [] w w' [intsC (.slice A2 n2 cp2) ws, slC (.slice A1 n1 cp1) L, Chunk.blk qb oq 90, arC a mb gb NIL 0 st ws L (k + 1)], ?_, ?_⟩
        · refine ⟨fun b w' => (b = true → 0 < n1) ∧ w' = w12, ⟨_, (kin 2 hS rfl).1, sel_of (fun _ => ⟨rfl, And.intro (fun hb => by simpa using hb) rfl⟩) (fun _ => ⟨rfl, And.intro (fun hb => nomatch hb) rfl⟩)⟩, ?_⟩
          rintro d4 b161 w12 ⟨hb, rfl⟩
          refine sel_of (fun hb2 => ?_) (fun _ => ⟨rfl, hzr.1, hzr.2, hS⟩)
          have hp1 := hb hb2
          refine ⟨_, (kin 2 hS rfl).2, ?_⟩
          refine Calls.mono (hS.step0 (LW.at_ w12 z (n := n1) hp1 (by omega))) ?_
          rintro _ w18 ⟨rfl, hS18⟩
          have har2 := LW.atI_range z (n := n1) hp1
          obtain ⟨j, hj⟩ : ∃ q : Nat, LW.atI z n1 = (q : Int) := ⟨(LW.atI z n1).toNat, by omega⟩
          rw [hj] at har2 ⊢
          obtain ⟨b5, o5, hA5, hc5⟩ := (rdB hS18 1 rfl).2 hp1
          obtain ⟨c5, _, _⟩ := hc5 j (by omega)
          have hmem := hT.mem (L.getD j AR.dB) (by rw [List.getD_eq_getElem?_getD, List.getElem?_eq_getElem (by omega)]; exact List.getElem_mem _)
          refine ⟨_, rfl, har2.1, har2.2, needPtr_of hA5 ⟨_, by rw [Int.toNat_natCast]; exact c5, rfl, by omega, by omega, hS18⟩⟩
        · clear hS
          rintro d5 to w19 ⟨hto1, hto2, hS⟩
          refine Calls.mono (hS.step0 (sizeC (rdB hS 1 rfl) (by omega) to)) ?_
          rintro _ w20 ⟨rfl, hS20⟩
          refine ⟨_, rfl, ?_⟩
          refine Calls.mono (giveS hS20 3 rfl (by omega) (by omega) (by omega) to) ?_
          rintro _ w21 ⟨rfl, hS21⟩
          refine ⟨_, rfl, ?_⟩
          rw [sizeL_eq]
          refine ⟨fun b w' => b = false ∧ w' = w21, ?_, ?_⟩
          · cases hG : giveL to L with
            | none =>
              have e1 : resG to L = 151 := by unfold resG; rw [hG]
              rw [e1]
              exact sel_true rfl (sel_false rfl (sel_false rfl ⟨rfl, rfl, rfl⟩))
            | some rr =>
              obtain ⟨m, L'⟩ := rr
              have e1 : resG to L = 0 := by unfold resG; rw [hG]
              obtain ⟨_, _, _, _, g5, _⟩ := giveL_some hG hT
              rw [e1]
              exact sel_false (by simp; omega) (sel_true (by simp; omega) ⟨rfl, rfl, rfl⟩)
          rintro d6 _ _ ⟨rfl, rfl⟩
          refine sel_false rfl ⟨rfl, ?_⟩
          cases hG : giveL to L with
          | none =>
            have e2 : nextG to L = L := by unfold nextG; rw [hG]
            have e3 : wordsG to L ws = ws := by unfold wordsG; rw [hG]
            rw [e2, e3] at hS21
            exact ⟨k + 1 + 1, ws, L, by omega, hwl, .inl ⟨rfl, rfl, hto1, hto2⟩, hS21⟩
          | some rr =>
            obtain ⟨m, L'⟩ := rr
            have e2 : nextG to L = coal none L' := by unfold nextG; rw [hG]
            have e3 : wordsG to L ws = CM.fillN ws to.toNat POISON m.toNat := by unfold wordsG; rw [hG]
            obtain ⟨_, g2, _, g4, g5, g6, _⟩ := giveL_some hG hT
            have hlen := wordsG_len to L ws
            rw [e2] at hS21
            refine ⟨k + 1 + 1, _, _, by omega, by rw [hlen]; exact hwl, .inr (.inr ⟨by show 0 < m; omega, hk1, by omega, by show to + m ≤ _; omega, e3, ?_⟩), hS21⟩
            rw [(coal_takens L').1]
            exact g2
    · clear hS hS8
      rintro d7 want cnt to w23 ⟨k', ws', L', hk', hwl', hM, hS⟩
      obtain ⟨hT0', hAp'⟩ := okS hS 3 rfl
      have hT' : Tiled st N L' := by rw [← hwl']; exact hT0'
      have hLl' := hT'.len
      have hWs := wordsS hS 3 rfl (by omega)
      rw [hwl'] at hWs
      refine Calls.mono hWs ?_
      rintro _ w24 ⟨A3, n3, cp3, rfl, hS24⟩
      refine ⟨_, _, _, _, rfl, ?_⟩
      refine Calls.mono (blocksS hS24 4 rfl (by omega) (by omega) (by omega) (by omega)) ?_
      rintro _ w25 ⟨A4, n4, cp4, rfl, hS25⟩
      refine ⟨_, _, _, rfl, ?_⟩
      have hS25 : St [] w w25 [slC (.slice A4 n4 cp4) L', intsC (.slice A3 n3 cp3) ws', intsC (.slice A2 n2 cp2) ws, slC (.slice A1 n1 cp1) L, Chunk.blk qb oq 90, arC a mb gb NIL 0 st ws' L' (k' + 1)] := hS25
      refine ⟨fun b w' => b = true ∧ St [] w w' [slC (.slice A4 n4 cp4) L', intsC (.slice A3 n3 cp3) ws', intsC (.slice A2 n2 cp2) ws, slC (.slice A1 n1 cp1) L, Chunk.blk qb oq 90, arC a mb gb NIL 0 st ws' L' (k' + 1)], sel_true (by simp) ?_, ?_⟩
      · refine Calls.mono (hS25.step0 (changedC (rdI hS25 2 rfl) (rdI hS25 1 rfl) (by omega) (by omega) (fun i hi => hM.changed (by omega) i))) ?_
        rintro _ w26 ⟨rfl, hS26⟩
        refine ⟨_, rfl, sel_true rfl ?_⟩
        refine Calls.mono (hS26.step0 (coversC (rdB hS26 0 rfl) hT' hAp' (by omega) (by omega))) ?_
        rintro _ w27 ⟨rfl, hS27⟩
        refine ⟨_, rfl, sel_true rfl ?_⟩
        refine Calls.mono (liveS hS27 5 rfl) ?_
        rintro _ w28 ⟨rfl, hS28⟩
        refine ⟨_, rfl, ?_⟩
        refine Calls.mono (hS28.step0 (outC (rdB hS28 0 rfl) (by omega))) ?_
        rintro _ w29 ⟨rfl, hS29⟩
        exact ⟨_, rfl, rfl, by simp, hS29⟩
      clear hS hS24 hS25 hWs
      rintro d8 _ w30 ⟨rfl, hS⟩
      refine ⟨fun b w' => (b = true ↔ 0 < cnt ∧ kind = 1) ∧ w' = w30, ?_, ?_⟩
      · refine sel_of (fun hb => ⟨_, (kin 4 hS rfl).1, rfl, ?_, rfl⟩) (fun hb => ⟨rfl, ?_, rfl⟩)
        · have : 0 < cnt := by simpa using hb
          simp [this]
        · have : ¬ 0 < cnt := by simpa using hb
          simp [this]
      rintro d9 b228 _ ⟨hb, rfl⟩
      rw [hi1]
      have fin : ∀ w', St [] w w' [slC (.slice A4 n4 cp4) L', intsC (.slice A3 n3 cp3) ws', intsC (.slice A2 n2 cp2) ws, slC (.slice A1 n1 cp1) L, Chunk.blk qb oq 90, arC a mb gb NIL 0 st ws' L' (k' + 1)] → ∃ m, m < r ∧ K1 w N a mb gb st n true ((i + 1 : Nat) : Int) w' m :=
        fun w' hS => ⟨r - 1, by omega, rfl, i + 1, k' + 1, ws', L', rfl, by omega, by omega, hwl', hS.sel [5] (by decide) _ rfl⟩
      have h2l : (takens L').length ≤ L'.length := by
        have := List.length_filter_le (fun b : B => !b.2.2) L'
        simpa [takens] using this
      have h1l : (takens L).length ≤ L.length := by
        have := List.length_filter_le (fun b : B => !b.2.2) L
        simpa [takens] using this
      refine sel_of (fun hb2 => sel_true rfl ?_) (fun hb2 => ?_)
      · obtain ⟨q1, q2⟩ := hb.1 hb2
        rcases hM with ⟨m1, _⟩ | ⟨_, _, _, _, _, m6⟩ | ⟨_, m2, _⟩
        · omega
        · refine Calls.mono (hS.step0 (sizeC (rdB hS 0 rfl) (by omega) to)) ?_
          rintro _ w32 ⟨rfl, hS32⟩
          refine ⟨_, rfl, sel_true (by rw [sizeL_mem hT' (m6.symm.mem_iff.1 List.mem_cons_self)]; simp) ?_⟩
          refine Calls.mono (hS32.step0 (outC (rdB hS32 0 rfl) (by omega))) ?_
          rintro _ w33 ⟨rfl, hS33⟩
          refine ⟨_, rfl, ?_⟩
          refine Calls.mono (hS33.step0 (outC (rdB hS33 3 rfl) (by omega))) ?_
          rintro _ w34 ⟨rfl, hS34⟩
          refine ⟨_, rfl, rfl, ?_⟩
          have hle := m6.length_eq
          rw [List.length_cons] at hle
          have e : (((takens L').length : Int) == IntKind.i64.wrap (((takens L).length : Int) + 1)) = true := by
            rw [i64_id (by omega) (by omega), hle]; simp
          rw [e]
          exact fin _ hS34
        · exact absurd q2 m2
      · refine sel_of (fun hb3 => sel_true rfl ?_) (fun hb3 => ⟨rfl, fin _ hS⟩)
        have q1 : 0 < cnt := by simpa using hb3
        have q2 : kind ≠ 1 := fun hq => by rw [hb.2 ⟨q1, hq⟩] at hb2; cases hb2
        rcases hM with ⟨m1, _⟩ | ⟨_, m2, _⟩ | ⟨_, _, _, _, _, m6⟩
        · omega
        · exact absurd m2 q2
        · refine Calls.mono (hS.step0 (sizeC (rdB hS 0 rfl) (by omega) to)) ?_
          rintro _ w32 ⟨rfl, hS32⟩
          have hno : ∀ v, (to, v) ∉ takens L' := by
            have hk2 := (keysOf hT).perm m6
            intro v hv
            exact (List.pairwise_cons.1 hk2).1 _ hv rfl
          refine ⟨_, rfl, sel_true (by rw [sizeL_not hno]; simp) ?_⟩
          refine Calls.mono (hS32.step0 (outC (rdB hS32 0 rfl) (by omega))) ?_
          rintro _ w33 ⟨rfl, hS33⟩
          refine ⟨_, rfl, ?_⟩
          refine Calls.mono (hS33.step0 (outC (rdB hS33 3 rfl) (by omega))) ?_
          rintro _ w34 ⟨rfl, hS34⟩
          refine ⟨_, rfl, rfl, ?_⟩
          have hle := m6.length_eq
          rw [List.length_cons] at hle
          have e : (((takens L').length : Int) == IntKind.i64.wrap (((takens L).length : Int) - 1)) = true := by
            rw [i64_id (by omega) (by omega), hle]; simp
          rw [e]
          exact fin _ hS34
  · rintro e w' ⟨v, rfl, rfl, h⟩; exact ⟨rfl, h⟩
end PA
end Go.Proofs.Ytebahglmdifmpaa
