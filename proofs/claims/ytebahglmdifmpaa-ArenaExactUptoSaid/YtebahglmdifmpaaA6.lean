/- Words of an arena's memory, copied out. -/
import Derived.Test.YtebahglmdifmpaaA5
import Derived.Test.YtebahglmdifmpaaV8
import Derived.Test.YtebahglmdifmpaaV10
set_option linter.unusedVariables false
set_option linter.unusedSimpArgs false
set_option maxRecDepth 10000
namespace Go.Proofs.Ytebahglmdifmpaa
open Go Go.Proofs.Ytebahglmdifmpaa.Vc
namespace PA
abbrev intsC (v : Value) (l : List Int) : Chunk := Chunk.sl 3 1 v (l.map fun x => [Value.int .i64 x])
section
variable {S : List Nat} {w0 w : World} {K : List Chunk} {a mb gb : Nat} {tr : Value} {bad st : Int} {ws : List Int} {L : List B} {k : Nat}
theorem memS (h : St S w0 w K) (i : Nat) (hi : K[i]? = some (arC a mb gb tr bad st ws L k)) : w.cell? ⟨mb, 0, none⟩ = some (.slice (some ⟨gb, 0, none⟩) ws.length ws.length) ∧ ∀ j, j < ws.length → w.cell? ⟨gb, 0 + (j : Int).toNat * 1, none⟩ = some (.int .i64 (ws.getD j 0)) := by
  obtain ⟨F, ⟨⟨es, came, out⟩, hO, hA⟩, _⟩ := h.at i hi
  obtain ⟨hb, mp, FH, h1, h2, _⟩ := hA
  refine ⟨h2.1.cell rfl, fun j hj => ?_⟩
  rw [show 0 + (j : Int).toNat * 1 = j by simp]
  exact h2.2.2.cell (i := j) (j := 0) (by simpa using hj) (by decide) (by omega) (by simp [List.getD_eq_getElem?_getD, hj, CM.encW])
theorem enters82 : entersB Try.prog 82 = true := by kernel_rfl
abbrev bagC (q mb : Nat) (v : Value) : Chunk := Chunk.blk q #[.pointer (some ⟨mb, 0, none⟩), v] 153
theorem take1 {q : Nat} {A : Option Addr} {n c : Nat} {l : List Int} (h : St S w0 w (bagC q mb (.slice A n c) :: intsC (.slice A n c) l :: K)) (i : Nat) (hi : K[i]? = some (arC a mb gb tr bad st ws L k)) {j : Nat} (hj : j < ws.length) (hl : l.length ≤ 4000) :
    callT Try.prog (.func (.func 82) #[.pointer (some ⟨q, 0, none⟩)] #[]) #[.int .i64 (j : Int)] w fun e w' => e = .returned (.tuple #[]) ∧ ∃ A' n' c', St S w0 w' (bagC q mb (.slice A' n' c') :: intsC (.slice A' n' c') (l ++ [ws.getD j 0]) :: K) := by
  refine CM.callT_of enters82 ?_
  refine Calls.mono (f82.calls (a0 := q) (xa1 := (j : Int)) (R := fun v w' => v = .tuple #[] ∧ ∃ A' n' c', St S w0 w' (bagC q mb (.slice A' n' c') :: intsC (.slice A' n' c') (l ++ [ws.getD j 0]) :: K)) ?_) ?_
  · dsimp only [f82.VC]
    obtain ⟨m1, m2⟩ := memS h (i + 2) (by simpa using hi)
    have hq := h.blk 0 rfl
    refine ⟨_, _, _, hq.cell rfl, _, hq.cell rfl, needPtr_of rfl ⟨_, _, _, m1, by omega, by omega, needPtr_of rfl ⟨_, m2 j hj, ?_⟩⟩⟩
    have hS := h.drew.alloc #[.int .i64 (ws.getD j 0)] 3
    obtain ⟨ti, t1, t2, t3, t4⟩ := CM.info3
    obtain ⟨g', cap', w', hrun, hS2⟩ := hS.append (P := Try.prog) (ty := 23) (r := [.int .i64 (ws.getD j 0)]) 2 CM.under23 t1 t2 t3 rfl (by decide) rfl (hS.blk 0 rfl) rfl rfl (by intro u hu; simp at hu; subst hu; rfl) (by rw [t4]; simp; omega) (by simp [maxLen]; omega)
    have hq2 := hS2.blk 1 rfl
    refine ⟨_, _, _, _, hrun, hq2.can (by simp), rfl, some ⟨g', 0, none⟩, (l.map fun x => [Value.int .i64 x]).length + 1, cap', ?_⟩
    have hS3 := (hS2.set 1 rfl 1 [.slice (some ⟨g', 0, none⟩) ((l.map fun x => [Value.int .i64 x]).length + 1) cap']).tail
    have e : putA #[Value.pointer (some ⟨mb, 0, none⟩), .slice A n c] 1 [.slice (some ⟨g', 0, none⟩) ((l.map fun x => [Value.int .i64 x]).length + 1) cap'] = #[.pointer (some ⟨mb, 0, none⟩), .slice (some ⟨g', 0, none⟩) ((l.map fun x => [Value.int .i64 x]).length + 1) cap'] := rfl
    rw [e] at hS3
    have e2 : (l ++ [ws.getD j 0]).map (fun x => [Value.int .i64 x]) = l.map (fun x => [Value.int .i64 x]) ++ [[.int .i64 (ws.getD j 0)]] := by simp
    simp only [intsC]
    rw [e2]
    exact hS3
  · rintro e w' ⟨v, rfl, rfl, h⟩
    exact ⟨rfl, h⟩
theorem wordsS (h : St S w0 w K) (i : Nat) (hi : K[i]? = some (arC a mb gb tr bad st ws L k)) (hlen : ws.length ≤ 4000) :
    Calls Try.prog 51 #[.pointer (some ⟨mb, 0, none⟩), .int .i64 0, .int .i64 (ws.length : Int)] w fun e w' => ∃ A n c, e = .returned (.tuple #[.slice A n c, .int .i64 0]) ∧ St S w0 w' (intsC (.slice A n c) ws :: K) := by
  refine Calls.mono (f51.calls (R := fun v w' => ∃ A n c, v = .tuple #[.slice A n c, .int .i64 0] ∧ St S w0 w' (intsC (.slice A n c) ws :: K)) ?_) ?_
  · dsimp only [f51.VC]
    have hS := (h.alloc #[.pointer (some ⟨mb, 0, none⟩), .slice none 0 0] 153).nil 3 1
    generalize World.alloc w (.cells #[.pointer (some ⟨mb, 0, none⟩), .slice none 0 0] 153) = w1 at *
    generalize w.heap.size = q at *
    have hS := hS.swap 0 1 rfl rfl
    have hS : St S w0 w1 (bagC q mb (.slice none 0 0) :: intsC (.slice none 0 0) [] :: K) := hS
    have key : Calls Try.prog 81 #[.pointer (some ⟨mb, 0, none⟩), .int .i64 0, .int .i64 (ws.length : Int), .func (.func 82) #[.pointer (some ⟨q, 0, none⟩)] #[]] w1 fun e w' => e = .returned (.int .i64 0) ∧ ∃ A n c, St S w0 w' (bagC q mb (.slice A n c) :: intsC (.slice A n c) ws :: K) := by
      refine Calls.mono (f81.calls (R := fun x w' => x = .int .i64 0 ∧ ∃ A n c, St S w0 w' (bagC q mb (.slice A n c) :: intsC (.slice A n c) ws :: K)) ?_) ?_
      · dsimp only [f81.VC]
        obtain ⟨m1, _⟩ := memS hS (i + 2) (by simpa using hi)
        refine sel_false (by simp) (sel_false (by simp <;> omega) ⟨_, _, _, m1, ?_⟩)
        have hw : IntKind.i64.wrap ((ws.length : Int) - (ws.length : Int)) = 0 := i64_id (by omega) (by omega) |>.trans (by omega)
        rw [hw]
        refine sel_false (by simp) ⟨fun x w' r => ∃ j : Nat, x = (j : Int) ∧ j + r = ws.length ∧ ∃ A n c, St S w0 w' (bagC q mb (.slice A n c) :: intsC (.slice A n c) (ws.take j) :: K), ⟨ws.length, 0, rfl, by omega, _, _, _, hS⟩, ?_⟩
        rintro _ x w2 r ⟨j, rfl, hjr, A, n, c, hS2⟩
        refine sel_of ?_ ?_
        · intro hd
          have hj : j < ws.length := by simpa using hd
          have hw2 : IntKind.i64.wrap (0 + (j : Int)) = (j : Int) := by rw [i64_id (by omega) (by omega)]; omega
          have hw3 : IntKind.i64.wrap ((j : Int) + 1) = ((j + 1 : Nat) : Int) := by rw [i64_id (by omega) (by omega)]; omega
          rw [hw2, hw3]
          refine callT_mono (take1 hS2 i hi hj (by simp; omega)) ?_
          rintro e w3 ⟨rfl, A', n', c', hS3⟩
          refine ⟨rfl, rfl, r - 1, by omega, j + 1, rfl, by omega, A', n', c', ?_⟩
          have e : ws.take (j + 1) = ws.take j ++ [ws.getD j 0] := by
            rw [List.take_succ_eq_append_getElem hj]
            simp [List.getD_eq_getElem?_getD, hj]
          rw [e]; exact hS3
        · intro hd
          have hj : j = ws.length := by simp at hd; omega
          subst hj
          rw [List.take_length] at hS2
          exact ⟨rfl, A, n, c, hS2⟩
      · rintro e w' ⟨v, rfl, rfl, h⟩
        exact ⟨rfl, h⟩
    refine Calls.mono key ?_
    rintro _ w2 ⟨rfl, A, n, c, hS2⟩
    exact ⟨_, rfl, _, _, _, (hS2.blk 0 rfl).cell rfl, A, n, c, rfl, hS2.tail⟩
  · rintro e w' ⟨v, rfl, A, n, c, rfl, h⟩
    exact ⟨A, n, c, rfl, h⟩
end
end PA
end Go.Proofs.Ytebahglmdifmpaa
