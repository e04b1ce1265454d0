/- Page: awake. -/
import Derived.Test.YtjmlfknogjaemaaM30
set_option linter.unusedVariables false
set_option linter.unusedSimpArgs false
set_option maxRecDepth 10000
namespace Go.Proofs.Ytjmlfknogjaemaa
open Go Go.Proofs.Ytjmlfknogjaemaa.Vc
namespace PG
open Vc.PG NI
theorem exW_le : ∀ i, exW.getD i 0 ≤ 9223372036854775807 := by
  intro i
  by_cases hi : i < 21
  · have : ∀ i : Fin 21, exW.getD i 0 ≤ 9223372036854775807 := by decide
    exact this ⟨i, hi⟩
  · rw [List.getD_eq_getElem?_getD, List.getElem?_eq_none (by simp [exW]; omega)]; decide
theorem awake (w : World) : Calls Try.prog 10 #[] w fun e w' => e = .returned (.bool true) ∧ Fr [] w w' := by
  refine Calls.mono (f10.calls (R := fun v w' => v = .bool true ∧ Fr [] w w') ?_) ?_
  · dsimp only [f10.VC]
    refine Calls.mono (NI.new (St.start w)) ?_
    rintro _ w1 ⟨x, rfl, hS1⟩
    refine ⟨_, rfl, sel_of (fun h => by cases h) (fun _ => ?_)⟩
    refine Calls.mono (smallC hS1) ?_
    rintro _ w2 ⟨v, rfl, hv, hS2⟩
    have hG2 : InG w2 v exG := hS2.says 0 rfl
    have hsz := sizeC hG2 ⟨by omega, by omega, by omega⟩
    rw [ex_size] at hsz
    refine ⟨_, _, _, _, _, _, _, _, _, _, _, _, _, _, _, _, _, _, rfl, ?_⟩
    refine Calls.mono (hS2.step0 hsz) ?_
    rintro _ w3 ⟨rfl, hS3⟩
    refine ⟨_, rfl, sel_of (fun h => by simp at h) (fun _ => ?_)⟩
    refine Calls.mono (smallC hS3) ?_
    rintro _ w4 ⟨u, rfl, hu, hS4⟩
    refine ⟨_, _, _, _, _, _, _, _, _, _, _, _, _, _, _, _, _, _, rfl, ?_⟩
    obtain ⟨F, hF, hG, hgr⟩ := hS4.graftW 2 rfl
    obtain ⟨G, hG4, hd⟩ := hG 0 _ (by decide) rfl
    have hlay := layC (St.start1 hF) (v := u) (g := exG) (fun w' hf => Chunk.keep_says (Chunk.fr _ hG4 hf hd)) (by simp) ⟨by omega, by omega, by omega⟩ 5
    rw [ex_lay] at hlay
    refine Calls.mono hlay ?_
    rintro _ w5 ⟨A, n, c, rfl, hS5⟩
    have hS6 := hgr (hS5.swap 0 1 rfl rfl)
    have hS6 : St [] w w5 [ints (.slice A n c) exW, gC u exG, gC v exG, idxC x exL] := hS6
    clear hS5 hlay hgr hG hF hG4
    refine ⟨_, _, _, _, rfl, sel_of (fun h => by cases h) (fun _ => ?_)⟩
    have hS7 := hS6.alloc (exW.map encN).toArray 3
    have hW7 : InW (w5.alloc (.cells (exW.map encN).toArray 3)) (some ⟨w5.heap.size, 0, none⟩) 21 exW := by
      obtain ⟨F, hF, _⟩ := hS7.at 0 rfl
      have := Chunk.ls_says 0 (ls_of_blk (l := exW) (enc := encN) (by decide) hF)
      exact ⟨this.1, this.2.2⟩
    have hn : n = 21 := hS6.lsLen 0 rfl
    subst hn
    refine Calls.mono (hS7.step0 (sameC (St.inI hS7 1 rfl) hW7 (by decide))) ?_
    rintro _ w7 ⟨rfl, hS8⟩
    refine ⟨_, rfl, sel_of (fun h => by simp at h) (fun _ => ?_)⟩
    have d1 := decC (St.inI hS8 1 rfl) (c := c) (by decide) 2 3 1
    rw [ex_dec1] at d1
    refine Calls.mono (hS8.step0 d1) ?_
    rintro _ w8 ⟨rfl, hS9⟩
    refine ⟨_, _, rfl, ?_⟩
    have d2 := decC (St.inI hS9 1 rfl) (c := c) (by decide) 2 3 2
    rw [ex_dec2] at d2
    refine Calls.mono (hS9.step0 d2) ?_
    rintro _ w9 ⟨rfl, hS10⟩
    refine ⟨_, _, rfl, ?_⟩
    have hrd := readC (St.inI hS10 1 rfl) (c := c) (idxAt hS10 4 rfl) (by decide) (by decide) exW_le
    refine Calls.mono hrd ?_
    obtain ⟨q1, q2, q3⟩ := ex_read
    rintro _ w10 ⟨_, rfl, g, rfl, hS11⟩
    rw [q1, q2]
    have hg : InG w10 g (readP exW exL).2.1 := hS11.says 0 rfl
    have hgs : g.s.2.1 = 1 := by rw [hg.s.1.1, q3]
    have hS12 := hS10.gone hS11
    have hS13 := hS12.alloc #[.slice none 0 0, .slice none 0 0, .slice none 0 0, .slice none 0 0, .slice none 0 0, .slice none 0 0] 29
    have hS14 := hS13.over 0 rfl [g.a.v, g.s.v, g.o.v, g.f.v, g.n.v, g.m.v] rfl
    refine ⟨_, _, _, _, _, _, _, _, _, _, _, _, _, _, _, _, _, _, _, _, rfl, (hS13.blk 0 rfl).can (by decide), ?_⟩
    refine sel_of (fun _ => sel_of (fun _ => sel_of (fun _ => sel_of (fun _ => sel_of (fun _ => sel_of (fun _ => ?_) (fun h => by simp at h)) (fun h => by simp at h)) (fun h => by simp at h)) (fun h => by simp at h)) (fun h => by simp at h)) (fun h => by simp at h)
    refine ⟨_, _, _, (hS14.blk 0 rfl).cell rfl, sel_of (fun _ => ?_) (fun h => by rw [hgs] at h; simp at h)⟩
    have hh := hashP (setCs (World.alloc w10 (.cells #[.slice none 0 0, .slice none 0 0, .slice none 0 0, .slice none 0 0, .slice none 0 0, .slice none 0 0] 29)) w10.heap.size 0 [g.a.v, g.s.v, g.o.v, g.f.v, g.n.v, g.m.v]) 9 8 (by decide)
    rw [ex_hash] at hh
    refine Calls.mono (hS14.step0 hh) ?_
    rintro _ w13 ⟨rfl, hS15⟩
    exact ⟨_, rfl, rfl, hS15.frame⟩
  · rintro e w' ⟨v, rfl, rfl, h⟩; exact ⟨rfl, h⟩
end PG
end Go.Proofs.Ytjmlfknogjaemaa
/- Page: the law PageHash, the walk. -/
set_option linter.unusedVariables false
set_option linter.unusedSimpArgs false
set_option maxRecDepth 10000
namespace Go.Proofs.Ytjmlfknogjaemaa
open Go Go.Proofs.Ytjmlfknogjaemaa.Vc
namespace PG
open Vc.PG NI
theorem lawHash (w : World) (x y : Int) (hy : y ≤ 9223372036854775807) : Calls Try.prog 3 #[.int .i64 x, .int .i64 y] w fun e w' => e = .returned (.bool true) ∧ Fr [] w w' := by
  refine Calls.mono (f3.calls (R := fun v w' => v = .bool true ∧ Fr [] w w') ?_) ?_
  · dsimp only [f3.VC]
    refine Calls.mono (awake w) ?_
    rintro _ w1 ⟨rfl, f1⟩
    refine ⟨_, rfl, Calls.mono (hashP w1 x y hy) ?_⟩
    rintro _ w2 ⟨rfl, f2⟩
    refine ⟨_, rfl, sel_of (fun _ => ?_) (fun h => by cases h)⟩
    refine Calls.mono (hashR w2 x y hy) ?_
    rintro _ w3 ⟨rfl, f3⟩
    have hf : Fr [] w w3 := f1.trans (f2.trans f3)
    have hr := pgHash_range x (size := y)
    refine ⟨_, rfl, sel_of (fun _ => ?_) (fun h => by simp at h)⟩
    refine sel_of (fun _ => ?_) (fun h => by have := of_decide_eq_false h; omega)
    refine sel_of (fun _ => ⟨rfl, hf⟩) (fun h => ?_)
    have h := of_decide_eq_false h
    refine sel_of (fun h2 => ⟨?_, hf⟩) (fun h2 => by have := of_decide_eq_false h2; omega)
    have h0 : pgHash x y = 0 := by omega
    rw [h0]; rfl
  · rintro e w' ⟨v, rfl, rfl, h⟩; exact ⟨rfl, h⟩
end PG
end Go.Proofs.Ytjmlfknogjaemaa
