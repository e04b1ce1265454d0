/- ArenaBack: the walk. -/
import Derived.Test.YtebahglmdifmpaaA7
import Derived.Test.YtebahglmdifmpaaE1
import Derived.Test.YtebahglmdifmpaaV9a
import Derived.Test.YtebahglmdifmpaaL0
import Derived.Test.YtebahglmdifmpaaT1
set_option linter.unusedVariables false
set_option linter.unusedSimpArgs false
set_option maxRecDepth 10000
namespace Go.Proofs.Ytebahglmdifmpaa
open Go Go.Proofs.Ytebahglmdifmpaa.Vc
namespace PA
abbrev NIL : Value := .slice none 0 0
def J1 (w : World) (N a mb gb : Nat) (l : List Int) (A : Option Addr) (n c : Nat) (x : Int) (w' : World) (r : Nat) : Prop :=
  ∃ (j : Nat) (got : List Int) (ws : List Int) (L : List B), x = (j : Int) ∧ j + r = l.length ∧ got.Perm ((takens L).map (·.1)) ∧ ws.length = N ∧ St [] w w' [intsC (.slice A n c) got, arC a mb gb NIL 0 0 ws L (1 + j)]
def J2 (w : World) (N a mb gb T : Nat) (b : Bool) (A : Option Addr) (n c : Nat) (x : Int) (w' : World) (r : Nat) : Prop :=
  b = true ∧ ∃ (i : Nat) (got : List Int) (ws : List Int) (L : List B) (k : Nat), x = (i : Int) ∧ got.length = r ∧ i + r = T ∧ k ≤ 2000000 + 2 * i ∧ got.Perm ((takens L).map (·.1)) ∧ ws.length = N ∧ St [] w w' [intsC (.slice A n c) got, arC a mb gb NIL 0 0 ws L k]
def J3 (w : World) (N a mb gb k j : Nat) (A0 : Option Addr) (n0 c0 : Nat) (got : List Int) (ws : List Int) (L : List B) (A : Option Addr) (n c : Nat) (x : Int) (w' : World) (r : Nat) : Prop :=
  ∃ i : Nat, x = (i : Int) ∧ i + r = got.length ∧ St [] w w' [intsC (.slice A n c) ((got.take i).eraseIdx j), intsC (.slice A0 n0 c0) got, arC a mb gb NIL 0 0 ws L k]
theorem erase_succ (t : List Int) (k i : Nat) (hi : i < t.length) : (t.take (i + 1)).eraseIdx k = if i = k then (t.take i).eraseIdx k else (t.take i).eraseIdx k ++ [t.getD i 0] := by
  have e : t.take (i + 1) = t.take i ++ [t.getD i 0] := by
    rw [List.take_succ_eq_append_getElem hi]
    simp [List.getD_eq_getElem?_getD, hi]
  have hl : (t.take i).length = i := by simp; omega
  rw [e]
  split
  · rename_i h
    subst h
    rw [List.eraseIdx_append_of_length_le (by omega), hl, Nat.sub_self, List.eraseIdx_of_length_le (l := t.take i) (by omega)]
    simp
  · rename_i h
    rcases Nat.lt_or_ge k i with h1 | h1
    · rw [List.eraseIdx_append_of_lt_length (by omega)]
    · rw [List.eraseIdx_of_length_le (by simp; omega), List.eraseIdx_of_length_le (by omega)]
/-- A piece that is out is given back: and then it is not out. -/
theorem give_back {L : List B} {st e : Int} (ht : Tiled st e L) {got : List Int} (hp : got.Perm ((takens L).map (·.1))) {j : Nat} (hj : j < got.length) :
    resG (got.getD j 0) L = 0 ∧ resG (got.getD j 0) (nextG (got.getD j 0) L) = 151 ∧ nextG (got.getD j 0) (nextG (got.getD j 0) L) = nextG (got.getD j 0) L ∧ (got.eraseIdx j).Perm ((takens (nextG (got.getD j 0) L)).map (·.1)) := by
  have hm : got.getD j 0 ∈ (takens L).map (·.1) := hp.mem_iff.1 (by rw [List.getD_eq_getElem?_getD, List.getElem?_eq_getElem hj]; exact List.getElem_mem hj)
  have hgj : got[j] = got.getD j 0 := by simp [List.getD_eq_getElem?_getD, hj]
  generalize got.getD j 0 = g at *
  obtain ⟨p, hp1, hp2⟩ := List.mem_map.1 hm
  cases hG : giveL g L with
  | none => exact absurd (by rw [← hp2]; exact hp1) (giveL_none.1 hG p.2)
  | some r =>
    obtain ⟨n, L1⟩ := r
    obtain ⟨g1, g2, g3, g4, g5, g6, g7⟩ := giveL_some hG ht
    have e1 : nextG g L = coal none L1 := by unfold nextG; rw [hG]
    have e2 : takens (coal none L1) = takens L1 := (coal_takens L1).1
    have hkeys : Keys (takens L) := (takens_asc ht.asc).imp (fun h => by omega)
    have hk2 := Keys.perm hkeys g2
    have hno : giveL g (coal none L1) = none := by
      rw [giveL_none]
      intro v hv
      rw [e2] at hv
      exact (List.pairwise_cons.1 hk2).1 _ hv rfl
    refine ⟨by unfold resG; rw [hG], by rw [e1]; unfold resG; rw [hno], by rw [e1]; unfold nextG; rw [hno], ?_⟩
    rw [e1, e2]
    have h1 : (g :: got.eraseIdx j).Perm ((takens L).map (·.1)) := by
      rw [← hgj]
      exact (HeapPlain.eraseIdx_perm got j hj).symm.trans hp
    exact (List.perm_cons g).1 (h1.trans (g2.map _))
theorem back {w : World} {x0 : Int} {A1 : Option Addr} {n1 c1 : Nat} {A2 : Option Addr} {n2 c2 : Nat} {l1 l2 : List Int} (h1 : LW.InI w A1 n1 l1) (hw1 : ∀ z ∈ l1, z ≤ 9223372036854775807) (hn1 : n1 ≤ 1500000) (h2 : LW.InI w A2 n2 l2) (hn2 : n2 ≤ 1500000) :
    Calls Try.prog 9 #[.int .i64 x0, .slice A1 n1 c1, .slice A2 n2 c2] w fun e w' => e = .returned (.bool true) ∧ Fr [] w w' := by
  refine Calls.mono (f9.calls (R := fun v w' => v = .bool true ∧ Fr [] w w') ?_) ?_
  · dsimp only [f9.VC]
    have hl1 := h1.1
    have hl2 := h2.1
    refine Calls.mono ((St.start w).step0 (LV.lively _)) ?_
    rintro _ w1 ⟨rfl, hS1⟩
    refine ⟨_, rfl, ?_⟩
    refine Calls.mono (hS1.step0 (LW.at_ w1 x0 (n := 200) (by decide) (by decide))) ?_
    rintro _ w2 ⟨rfl, hS2⟩
    have har := LW.atI_range x0 (n := 200) (by decide)
    obtain ⟨q, hq⟩ : ∃ q : Nat, LW.atI x0 200 = (q : Int) := ⟨(LW.atI x0 200).toNat, by omega⟩
    rw [hq] at har ⊢
    have hN : IntKind.i64.wrap (1 + (q : Int)) = ((q + 1 : Nat) : Int) := by rw [i64_id (by omega) (by omega)]; omega
    obtain ⟨N, hNq⟩ : ∃ N : Nat, N = q + 1 := ⟨_, rfl⟩
    refine ⟨_, rfl, ?_⟩
    rw [hN, ← hNq]
    have hN1 : 1 ≤ N := by omega
    have hN2 : N ≤ 200 := by omega
    refine Calls.mono (newMem hS2 hN1 (by omega)) ?_
    rintro _ w3 ⟨mb, gb, rfl, hS3⟩
    refine ⟨_, _, rfl, sel_false rfl ?_⟩
    refine Calls.mono (newArena hS3 (st := 0) (by simp; omega) (by simp; omega)) ?_
    rintro _ w4 ⟨a, rfl, hS4⟩
    refine ⟨_, _, rfl, sel_false (by simp) (sel_false rfl ?_)⟩
    refine ⟨J1 w N a mb gb l1, ⟨l1.length, 0, [], _, _, rfl, by omega, by simp [takens], by simp, hS4.nil 3 1⟩, ?_⟩
    clear hS1 hS2 hS3 hS4
    rintro _ A13 n13 c13 x14 w5 r ⟨j, got, ws, L, rfl, hjr, hgp, hwl, hS⟩
    obtain ⟨ht, hap⟩ := okS hS 1 rfl
    have hLl := ht.len
    have htk : (takens L).length ≤ L.length := by
      have := List.length_filter_le (fun b : B => !b.2.2) L
      simpa [takens] using this
    have hgl : got.length = (takens L).length := by rw [hgp.length_eq]; simp
    have hn13 := hS.slLen 0 rfl
    rw [List.length_map] at hn13
    have hj0 : (0 : Int) ≤ (j : Int) := by omega
    refine sel_of ?_ ?_
    · intro hd
      have hj : j < l1.length := by rw [hl1] at hd; simpa using hd
      obtain ⟨bb, oo, rfl, hcs⟩ := h1.2 (by omega)
      have hj1 : IntKind.i64.wrap ((j : Int) + 1) = ((j + 1 : Nat) : Int) := by rw [i64_id (by omega) (by omega)]; omega
      have hck := hS.frame.cell (hcs j (by omega))
      rw [show oo + j = oo + (j : Int).toNat * 1 by simp] at hck
      have hz : l1.getD j 0 ≤ 9223372036854775807 := hw1 _ (by rw [List.getD_eq_getElem?_getD, List.getElem?_eq_getElem hj]; exact List.getElem_mem hj)
      generalize l1.getD j 0 = z at *
      refine ⟨hj0, by omega, needPtr_of rfl ⟨_, hck, ?_⟩⟩
      refine Calls.mono (takeS hS 1 rfl (by omega) (by omega) (by omega) z hz) ?_
      rintro _ w6 ⟨rfl, hS6⟩
      refine ⟨_, _, rfl, ?_⟩
      rw [hj1]
      have same : ¬ (1 ≤ z ∧ ∃ r, takeL z L = some r) → (resT z L).2 ≠ 0 ∧ nextT z L = L := by
        intro h
        unfold resT nextT
        by_cases h1 : z < 1
        · rw [if_pos h1, if_pos h1]; exact ⟨by decide, rfl⟩
        · rw [if_neg h1, if_neg h1]
          cases hT : takeL z L with
          | none => exact ⟨by decide, rfl⟩
          | some r => exact absurd ⟨by omega, r, hT⟩ h
      by_cases hc : 1 ≤ z ∧ ∃ r, takeL z L = some r
      · obtain ⟨hz1, ⟨at_, L'⟩, hT⟩ := hc
        have e1 : resT z L = (at_, 0) := by unfold resT; rw [if_neg (by omega), hT]
        have e2 : nextT z L = L' := by unfold nextT; rw [if_neg (by omega), hT]; rfl
        obtain ⟨t1, t2, _⟩ := takeL_some hz1 hT ht
        rw [e2] at hS6
        rw [e1]
        refine sel_true rfl ?_
        have hS7 := hS6.alloc #[.int .i64 at_] 3
        obtain ⟨ti, i1, i2, i3, i4⟩ := CM.info3
        obtain ⟨g', cap', w', hrun, hS8⟩ := hS7.append (P := Try.prog) (ty := 23) (r := [.int .i64 at_]) 1 CM.under23 i1 i2 i3 rfl (by decide) rfl (hS7.blk 0 rfl) rfl rfl (by intro u hu; simp at hu; subst hu; rfl) (by rw [i4]; simp; omega) (by simp [maxLen]; omega)
        refine ⟨_, _, _, _, hrun, rfl, r - 1, by omega, j + 1, got ++ [at_], wordsT z L ws, L', rfl, by omega, ?_, by rw [wordsT_len]; exact hwl, ?_⟩
        · refine List.perm_append_comm.trans ?_
          exact (hgp.cons at_).trans ((t2.map (fun p : Int × Int => p.1)).symm)
        · have e : (got ++ [at_]).map (fun x => [Value.int .i64 x]) = got.map (fun x => [Value.int .i64 x]) ++ [[.int .i64 at_]] := by simp
          simp only [intsC]
          rw [e]
          exact hS8.tail
      · obtain ⟨e1, e2⟩ := same hc
        rw [e2] at hS6
        refine sel_false (by simpa using e1) ⟨rfl, r - 1, by omega, j + 1, got, wordsT z L ws, L, rfl, by omega, hgp, by rw [wordsT_len]; exact hwl, hS6⟩
    · intro hd
      have hj : j = l1.length := by
        have : ¬ (j : Int) < (n1 : Int) := by simpa using hd
        omega
      refine Calls.mono (liveS hS 1 rfl) ?_
      rintro _ w9 ⟨rfl, hS9⟩
      refine ⟨_, rfl, sel_false (by rw [hn13, hgl]; simp) ?_⟩
      refine ⟨J2 w N a mb gb got.length, ⟨got.length, rfl, 0, got, ws, L, 1 + j, rfl, rfl, by omega, by omega, hgp, hwl, hS9⟩, ?_⟩
      have hT200 : got.length ≤ 200 := by omega
      generalize got.length = T at *
      clear hS hS9 ht hap hLl htk hgl hn13 hgp hwl hd hjr
      rintro _ b7 A13 n13 c13 x17 w10 r1 ⟨rfl, i, got, ws, L, k, rfl, rfl, hir, hk, hgp, hwl, hS⟩
      obtain ⟨ht, hap⟩ := okS hS 1 rfl
      have hn13 := hS.slLen 0 rfl
      rw [List.length_map] at hn13
      have hi1 : IntKind.i64.wrap ((i : Int) + 1) = ((i + 1 : Nat) : Int) := by rw [i64_id (by omega) (by omega)]; omega
      refine sel_of (fun hd => sel_true rfl ?body) (fun hd => ?exit)
      case body =>
        have hpos : 0 < got.length := by
          have : (0 : Int) < (n13 : Int) := by simpa using hd
          omega
        refine sel_of (fun hd2 => ?_) (fun hd2 => ?_)
        · have hi2 : i < l2.length := by rw [hl2] at hd2; simpa using hd2
          obtain ⟨bb2, oo2, rfl, hcs2⟩ := h2.2 (by omega)
          have hc := hS.frame.cell (hcs2 i (by omega))
          rw [show oo2 + i = oo2 + (i : Int).toNat * 1 by simp] at hc
          refine ⟨by omega, by omega, needPtr_of rfl ⟨_, hc, ?_⟩⟩
          have hnp : 0 < n13 := by omega
          refine Calls.mono (hS.step0 (LW.at_ w10 (l2.getD i 0) hnp (by omega))) ?_
          rintro _ w11 ⟨rfl, hS⟩
          have har2 := LW.atI_range (l2.getD i 0) hnp
          obtain ⟨j, hj⟩ : ∃ j : Nat, LW.atI (l2.getD i 0) n13 = (j : Int) := ⟨(LW.atI (l2.getD i 0) n13).toNat, by omega⟩
          rw [hj] at har2 ⊢
          have hj0 : True := trivial
          have hjl : j < got.length := by omega
          refine ⟨_, rfl, ?_⟩
          obtain ⟨g, rfl, hcell⟩ := intCell hS 0 rfl hjl
          refine ⟨by omega, by omega, needPtr_of rfl ⟨_, hcell, ?_⟩⟩
          obtain ⟨b1, b2, b3, b4⟩ := give_back ht hgp hjl
          generalize hgj : got.getD j 0 = gj at *
          refine Calls.mono (giveS hS 1 rfl (by omega) (by omega) (by omega) gj) ?_
          rintro _ w12 ⟨rfl, hS12⟩
          rw [b1]
          refine ⟨_, rfl, sel_true rfl ?_⟩
          obtain ⟨g2, hg2, hcell2⟩ := intCell hS12 0 rfl hjl
          injection hg2 with hg2
          injection hg2 with hg2
          subst hg2
          rw [hgj] at hcell2
          refine ⟨by omega, by omega, needPtr_of rfl ⟨_, hcell2, ?_⟩⟩
          refine Calls.mono (giveS hS12 1 rfl (by omega) (by rw [wordsG_len]; omega) (by omega) gj) ?_
          rintro _ w13 ⟨rfl, hS13⟩
          rw [b2]
          rw [b3] at hS13
          refine ⟨_, rfl, ?_⟩
          have hS14 := hS13.nil 3 1
          refine ⟨J3 w N a mb gb (k + 1 + 1) j (some ⟨g, 0, none⟩) n13 c13 got (wordsG gj (nextG gj L) (wordsG gj L ws)) (nextG gj L), ⟨got.length, 0, rfl, by omega, hS14⟩, ?_⟩
          clear hS13 hS14 hS12
          rintro _ A19 n19 c19 x20 w14 r2 ⟨i2, rfl, hir2, hS⟩
          have hn19 := hS.slLen 0 rfl
          refine sel_of ?_ ?_
          · intro hd3
            have hi2 : i2 < got.length := by
              have : (i2 : Int) < (n13 : Int) := by simpa using hd3
              omega
            have hi21 : IntKind.i64.wrap ((i2 : Int) + 1) = ((i2 + 1 : Nat) : Int) := by rw [i64_id (by omega) (by omega)]; omega
            refine sel_of ?_ ?_
            · intro hne
              have hne : i2 ≠ j := by
                intro e
                rw [e] at hne
                simp [hj0] at hne
              obtain ⟨g3, hg3, hcell3⟩ := intCell hS 1 rfl hi2
              injection hg3 with hg3
              injection hg3 with hg3
              subst hg3
              refine ⟨by omega, by omega, needPtr_of rfl ⟨_, hcell3, ?_⟩⟩
              have hS15 := hS.alloc #[.int .i64 (got.getD i2 0)] 3
              obtain ⟨ti, t1, t2, t3, t4⟩ := CM.info3
              have hel := List.length_eraseIdx_le (got.take i2) j
              have htl : (got.take i2).length ≤ got.length := by simp; omega
              obtain ⟨g', cap', w', hrun, hS16⟩ := hS15.append (P := Try.prog) (ty := 23) (r := [.int .i64 (got.getD i2 0)]) 1 CM.under23 t1 t2 t3 rfl (by decide) rfl (hS15.blk 0 rfl) rfl rfl (by intro u hu; simp at hu; subst hu; rfl) (by rw [t4]; simp only [List.length_map]; omega) (by simp only [List.length_map, maxLen]; omega)
              refine ⟨_, _, _, _, hrun, rfl, r2 - 1, by omega, i2 + 1, hi21, by omega, ?_⟩
              rw [erase_succ got j i2 hi2, if_neg hne]
              have e : ((got.take i2).eraseIdx j ++ [got.getD i2 0]).map (fun x => [Value.int .i64 x]) = ((got.take i2).eraseIdx j).map (fun x => [Value.int .i64 x]) ++ [[.int .i64 (got.getD i2 0)]] := by simp
              simp only [intsC]
              rw [e]
              exact hS16.tail
            · intro he
              have he : i2 = j := by
                simp at he
                omega
              refine ⟨rfl, r2 - 1, by omega, i2 + 1, hi21, by omega, ?_⟩
              rw [erase_succ got j i2 hi2, if_pos he]
              exact hS
          · intro hd3
            have hi2 : i2 = got.length := by
              have : ¬ (i2 : Int) < (n13 : Int) := by simpa using hd3
              omega
            subst hi2
            rw [List.take_length] at hS
            have hel : (got.eraseIdx j).length = got.length - 1 := by rw [List.length_eraseIdx, if_pos hjl]
            refine ⟨rfl, got.length - 1, by omega, rfl, i + 1, got.eraseIdx j, _, _, k + 1 + 1, hi1, hel, by omega, by omega, b4, by rw [wordsG_len, wordsG_len]; exact hwl, hS.sel [0, 2] (by decide) _ rfl⟩
        · obtain ⟨j, hj0⟩ : ∃ j : Nat, j = 0 := ⟨0, rfl⟩
          have hjl : j < got.length := by omega
          obtain ⟨g, rfl, hcell⟩ := intCell hS 0 rfl hjl
          have hcz : 0 + (j : Int).toNat * 1 = 0 := by simp [hj0]
          rw [hcz] at hcell
          refine ⟨by omega, by omega, needPtr_of rfl ⟨_, hcell, ?_⟩⟩
          obtain ⟨b1, b2, b3, b4⟩ := give_back ht hgp hjl
          generalize hgj : got.getD j 0 = gj at *
          refine Calls.mono (giveS hS 1 rfl (by omega) (by omega) (by omega) gj) ?_
          rintro _ w12 ⟨rfl, hS12⟩
          rw [b1]
          refine ⟨_, rfl, sel_true rfl ?_⟩
          obtain ⟨g2, hg2, hcell2⟩ := intCell hS12 0 rfl hjl
          injection hg2 with hg2
          injection hg2 with hg2
          subst hg2
          rw [hgj] at hcell2
          rw [hcz] at hcell2
          refine ⟨by omega, by omega, needPtr_of rfl ⟨_, hcell2, ?_⟩⟩
          refine Calls.mono (giveS hS12 1 rfl (by omega) (by rw [wordsG_len]; omega) (by omega) gj) ?_
          rintro _ w13 ⟨rfl, hS13⟩
          rw [b2]
          rw [b3] at hS13
          refine ⟨_, rfl, ?_⟩
          have hS14 := hS13.nil 3 1
          refine ⟨J3 w N a mb gb (k + 1 + 1) j (some ⟨g, 0, none⟩) n13 c13 got (wordsG gj (nextG gj L) (wordsG gj L ws)) (nextG gj L), ⟨got.length, 0, rfl, by omega, hS14⟩, ?_⟩
          clear hS13 hS14 hS12
          rintro _ A19 n19 c19 x20 w14 r2 ⟨i2, rfl, hir2, hS⟩
          have hn19 := hS.slLen 0 rfl
          refine sel_of ?_ ?_
          · intro hd3
            have hi2 : i2 < got.length := by
              have : (i2 : Int) < (n13 : Int) := by simpa using hd3
              omega
            have hi21 : IntKind.i64.wrap ((i2 : Int) + 1) = ((i2 + 1 : Nat) : Int) := by rw [i64_id (by omega) (by omega)]; omega
            refine sel_of ?_ ?_
            · intro hne
              have hne : i2 ≠ j := by
                intro e
                rw [e] at hne
                simp [hj0] at hne
              obtain ⟨g3, hg3, hcell3⟩ := intCell hS 1 rfl hi2
              injection hg3 with hg3
              injection hg3 with hg3
              subst hg3
              refine ⟨by omega, by omega, needPtr_of rfl ⟨_, hcell3, ?_⟩⟩
              have hS15 := hS.alloc #[.int .i64 (got.getD i2 0)] 3
              obtain ⟨ti, t1, t2, t3, t4⟩ := CM.info3
              have hel := List.length_eraseIdx_le (got.take i2) j
              have htl : (got.take i2).length ≤ got.length := by simp; omega
              obtain ⟨g', cap', w', hrun, hS16⟩ := hS15.append (P := Try.prog) (ty := 23) (r := [.int .i64 (got.getD i2 0)]) 1 CM.under23 t1 t2 t3 rfl (by decide) rfl (hS15.blk 0 rfl) rfl rfl (by intro u hu; simp at hu; subst hu; rfl) (by rw [t4]; simp only [List.length_map]; omega) (by simp only [List.length_map, maxLen]; omega)
              refine ⟨_, _, _, _, hrun, rfl, r2 - 1, by omega, i2 + 1, hi21, by omega, ?_⟩
              rw [erase_succ got j i2 hi2, if_neg hne]
              have e : ((got.take i2).eraseIdx j ++ [got.getD i2 0]).map (fun x => [Value.int .i64 x]) = ((got.take i2).eraseIdx j).map (fun x => [Value.int .i64 x]) ++ [[.int .i64 (got.getD i2 0)]] := by simp
              simp only [intsC]
              rw [e]
              exact hS16.tail
            · intro he
              have he : i2 = j := by
                simp at he
                omega
              refine ⟨rfl, r2 - 1, by omega, i2 + 1, hi21, by omega, ?_⟩
              rw [erase_succ got j i2 hi2, if_pos he]
              exact hS
          · intro hd3
            have hi2 : i2 = got.length := by
              have : ¬ (i2 : Int) < (n13 : Int) := by simpa using hd3
              omega
            subst hi2
            rw [List.take_length] at hS
            have hel : (got.eraseIdx j).length = got.length - 1 := by rw [List.length_eraseIdx, if_pos hjl]
            refine ⟨rfl, got.length - 1, by omega, rfl, i + 1, got.eraseIdx j, _, _, k + 1 + 1, hi1, hel, by omega, by omega, b4, by rw [wordsG_len, wordsG_len]; exact hwl, hS.sel [0, 2] (by decide) _ rfl⟩
      case exit =>
        have h0 : got = [] := by
          have : ¬ (0 : Int) < (n13 : Int) := by simpa using hd
          exact List.eq_nil_of_length_eq_zero (by omega)
        subst h0
        have htk : takens L = [] := by
          have := hgp.length_eq
          simp at this
          exact List.eq_nil_of_length_eq_zero (by omega)
        have hL := one_free ht hap htk (by omega)
        rw [hwl, show (N : Int) - 0 = (N : Int) by omega] at hL
        have r1 : resT ((N + 1 : Nat) : Int) L = (0, 150) ∧ nextT ((N + 1 : Nat) : Int) L = L ∧ wordsT ((N + 1 : Nat) : Int) L ws = ws := by
          rw [hL]
          have hT : takeL ((N + 1 : Nat) : Int) [((0 : Int), (N : Int), true)] = none := by
            rw [takeL, if_neg (by simp; omega)]; rfl
          unfold resT nextT wordsT
          rw [hT]
          have : ¬ ((N + 1 : Nat) : Int) < 1 := by omega
          rw [if_neg this, if_neg this, if_neg this]
          exact ⟨rfl, rfl, rfl⟩
        have r2 : resT (N : Int) L = (0, 0) ∧ wordsT (N : Int) L ws = CM.fillN ws 0 0 N := by
          rw [hL]
          have hT : takeL (N : Int) [((0 : Int), (N : Int), true)] = some (0, [((0 : Int), (N : Int), false)]) := by
            rw [takeL, if_pos (by simp), if_neg (by simp)]
          unfold resT wordsT
          rw [hT]
          have : ¬ (N : Int) < 1 := by omega
          rw [if_neg this, if_neg this]
          exact ⟨rfl, by simp⟩
        have hN1' : IntKind.i64.wrap ((N : Int) + 1) = ((N + 1 : Nat) : Int) := by rw [i64_id (by omega) (by omega)]; omega
        refine Calls.mono (blocksS hS 1 rfl (by omega) (by omega) (by omega) (by omega)) ?_
        rintro _ w28 ⟨A131, n131, c131, rfl, hS28⟩
        refine ⟨_, _, _, rfl, ?_⟩
        rw [hN1']
        refine Calls.mono (takeS hS28 2 rfl (by omega) (by omega) (by omega) ((N + 1 : Nat) : Int) (by omega)) ?_
        rintro _ w29 ⟨rfl, hS29⟩
        rw [r1.1]
        rw [r1.2.1, r1.2.2] at hS29
        refine ⟨_, _, rfl, ?_⟩
        refine Calls.mono (takeS hS29 2 rfl (by omega) (by omega) (by omega) (N : Int) (by omega)) ?_
        rintro _ w30 ⟨rfl, hS30⟩
        rw [r2.1]
        rw [r2.2] at hS30
        refine ⟨_, _, rfl, ?_⟩
        have hwl2 : (CM.fillN ws 0 0 N).length = N := by rw [CM.fillN_length]; exact hwl
        have hcall := wordsS hS30 2 rfl (by omega)
        rw [hwl2] at hcall
        refine Calls.mono hcall ?_
        rintro _ w31 ⟨A148, n148, c148, rfl, hS31⟩
        refine ⟨_, _, _, _, rfl, sel_true rfl ?_⟩
        have hn148 := hS31.slLen 0 rfl
        rw [List.length_map, hwl2] at hn148
        refine ⟨fun b x w' r => b = true ∧ ∃ i : Nat, x = (i : Int) ∧ i + r = N ∧ St [] w w' (intsC (.slice A148 n148 c148) (CM.fillN ws 0 0 N) :: [slC (.slice A131 n131 c131) L, intsC (.slice A13 n13 c13) [], arC a mb gb NIL 0 0 (CM.fillN ws 0 0 N) (nextT (N : Int) L) (k + 1 + 1 + 1)]),
          ⟨N, by rw [hn148]; simp, 0, rfl, by omega, hS31⟩, ?_⟩
        clear hS31 hS30 hS29 hS28 hcall
        rintro _ b x29 w32 r6 ⟨rfl, i3, rfl, hi3, hS32⟩
        refine sel_of ?_ ?_
        · intro hd3
          have hi : i3 < N := by
            have : (i3 : Int) < (n148 : Int) := by simpa using hd3
            omega
          have hi31 : IntKind.i64.wrap ((i3 : Int) + 1) = ((i3 + 1 : Nat) : Int) := by rw [i64_id (by omega) (by omega)]; omega
          obtain ⟨g, rfl, hcell⟩ := intCell hS32 0 rfl (j := i3) (by omega)
          refine sel_true rfl ⟨by omega, by omega, needPtr_of rfl ⟨_, hcell, rfl, r6 - 1, by omega, ?_, i3 + 1, hi31, by omega, hS32⟩⟩
          rw [fillN_get ws 0 0 N i3 (by omega), if_pos (by omega)]
          rfl
        · intro hd3
          have hn131 := hS32.slLen 1 rfl
          rw [List.length_map, hL] at hn131
          simp only [List.length_cons, List.length_nil] at hn131
          obtain ⟨g, rfl, e1, e2, e3⟩ := slCells hS32 1 rfl (j := 0) (by rw [hL]; simp)
          rw [hL] at e1 e2 e3
          refine sel_true rfl (sel_true (by rw [hn131]; rfl) ⟨by omega, by omega, needPtr_of rfl ⟨_, e1, _, e2, _, e3, true, ?_, sel_true rfl (sel_true rfl (sel_true rfl (sel_true rfl ⟨rfl, hS32.frame⟩)))⟩⟩)
          intro w'
          rw [eqB]
          simp
  · rintro e w' ⟨v, rfl, rfl, h⟩
    exact ⟨rfl, h⟩
end PA
end Go.Proofs.Ytebahglmdifmpaa
