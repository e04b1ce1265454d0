/- What the statements begin with (awake): true. -/
import Derived.Test.YtddbebhklmaeoaaM26
import Derived.Test.YtddbebhklmaeoaaM25
import Derived.Test.YtddbebhklmaeoaaM27
import Derived.Test.YtddbebhklmaeoaaM23
set_option linter.unusedVariables false
set_option linter.unusedSimpArgs false
set_option maxRecDepth 10000
set_option maxHeartbeats 8000000
namespace Go.Proofs.Ytddbebhklmaeoaa
open Go Go.Proofs.Ytddbebhklmaeoaa.Vc
namespace JG
open Vc.PG JD
theorem awakeR : Awakes := by
  intro w
  refine Calls.mono (f7.calls (R := fun e w' => e = .bool true ∧ Fr [] w w') ?_) ?_
  · dsimp only [f7.VC]
    refine Calls.mono openR ?_
    rintro _ w1 ⟨u, rfl, hS⟩
    have hA := hS.alloc #[.int .i64 0, .int .i64 0, .bool false, .bool false, .bool false, .slice none 0 0, .slice none 0 0, .slice none 0 0, .slice none 0 0, .slice none 0 0, .slice none 0 0, .slice none 0 0, .slice none 0 0, .slice none 0 0, .slice none 0 0, .slice none 0 0, .string ⟨#[]⟩, .string ⟨#[]⟩, .string ⟨#[]⟩] 39
    have hO := hA.over 0 rfl (calV cW u) rfl
    refine ⟨_, _, _, _, _, _, _, _, _, _, _, _, _, _, _, _, _, _, _, _, _, _, _, _, _, _, _, _, _, _, _, _, _, rfl, (hA.blk 0 rfl).can (by simp), ?_⟩
    change St [] w (setCs (World.alloc w1 (.cells #[.int .i64 0, .int .i64 0, .bool false, .bool false, .bool false, .slice none 0 0, .slice none 0 0, .slice none 0 0, .slice none 0 0, .slice none 0 0, .slice none 0 0, .slice none 0 0, .slice none 0 0, .slice none 0 0, .slice none 0 0, .slice none 0 0, .string ⟨#[]⟩, .string ⟨#[]⟩, .string ⟨#[]⟩] 39)) w1.heap.size 0 [.int .i64 0, .int .i64 3, .bool true, .bool false, .bool false, .slice u.a.1 u.a.2.1 u.a.2.2, .slice u.s.1 u.s.2.1 u.s.2.2, .slice u.r.1 u.r.2.1 u.r.2.2, .slice u.o.1 u.o.2.1 u.o.2.2, .slice u.g.1 u.g.2.1 u.g.2.2, .slice u.m.1 u.m.2.1 u.m.2.2, .slice u.i.1 u.i.2.1 u.i.2.2, .slice u.q.1 u.q.2.1 u.q.2.2, .slice u.t.1 u.t.2.1 u.t.2.2, .slice u.u.1 u.u.2.1 u.u.2.2, .slice u.e.1 u.e.2.1 u.e.2.2, .string ⟨#[]⟩, .string ⟨#[]⟩, .string ⟨#[]⟩]) _ at hO
    generalize setCs (World.alloc w1 (.cells #[.int .i64 0, .int .i64 0, .bool false, .bool false, .bool false, .slice none 0 0, .slice none 0 0, .slice none 0 0, .slice none 0 0, .slice none 0 0, .slice none 0 0, .slice none 0 0, .slice none 0 0, .slice none 0 0, .slice none 0 0, .slice none 0 0, .string ⟨#[]⟩, .string ⟨#[]⟩, .string ⟨#[]⟩] 39)) w1.heap.size 0 [.int .i64 0, .int .i64 3, .bool true, .bool false, .bool false, .slice u.a.1 u.a.2.1 u.a.2.2, .slice u.s.1 u.s.2.1 u.s.2.2, .slice u.r.1 u.r.2.1 u.r.2.2, .slice u.o.1 u.o.2.1 u.o.2.2, .slice u.g.1 u.g.2.1 u.g.2.2, .slice u.m.1 u.m.2.1 u.m.2.2, .slice u.i.1 u.i.2.1 u.i.2.2, .slice u.q.1 u.q.2.1 u.q.2.2, .slice u.t.1 u.t.2.1 u.t.2.2, .slice u.u.1 u.u.2.1 u.u.2.2, .slice u.e.1 u.e.2.1 u.e.2.2, .string ⟨#[]⟩, .string ⟨#[]⟩, .string ⟨#[]⟩] = w2 at *
    generalize w1.heap.size = bw at *
    replace hO : St [] w w2 [Chunk.blk bw (calV cW u).toArray 39, kP u openP] := hO
    clear hS hA
    have hS := hO
    clear hO
    refine Calls.mono (hS.step0 entryR) ?_
    rintro _ w3 ⟨rfl, hS⟩
    have hA := hS.alloc #[.int .i64 0, .int .i64 0, .bool false, .bool false, .bool false, .slice none 0 0, .slice none 0 0, .slice none 0 0, .slice none 0 0, .slice none 0 0, .slice none 0 0, .slice none 0 0, .slice none 0 0, .slice none 0 0, .slice none 0 0, .slice none 0 0, .string ⟨#[]⟩, .string ⟨#[]⟩, .string ⟨#[]⟩] 39
    have hO := hA.over 0 rfl (calV cY nilPV) rfl
    refine ⟨_, _, _, rfl, (hA.blk 0 rfl).can (by simp), ?_⟩
    change St [] w (setCs (World.alloc w3 (.cells #[.int .i64 0, .int .i64 0, .bool false, .bool false, .bool false, .slice none 0 0, .slice none 0 0, .slice none 0 0, .slice none 0 0, .slice none 0 0, .slice none 0 0, .slice none 0 0, .slice none 0 0, .slice none 0 0, .slice none 0 0, .slice none 0 0, .string ⟨#[]⟩, .string ⟨#[]⟩, .string ⟨#[]⟩] 39)) w3.heap.size 0 [.int .i64 1, .int .i64 2, .bool false, .bool false, .bool true, .slice none 0 0, .slice none 0 0, .slice none 0 0, .slice none 0 0, .slice none 0 0, .slice none 0 0, .slice none 0 0, .slice none 0 0, .slice none 0 0, .slice none 0 0, .slice none 0 0, .string bA, .string bO, .string bX]) _ at hO
    generalize setCs (World.alloc w3 (.cells #[.int .i64 0, .int .i64 0, .bool false, .bool false, .bool false, .slice none 0 0, .slice none 0 0, .slice none 0 0, .slice none 0 0, .slice none 0 0, .slice none 0 0, .slice none 0 0, .slice none 0 0, .slice none 0 0, .slice none 0 0, .slice none 0 0, .string ⟨#[]⟩, .string ⟨#[]⟩, .string ⟨#[]⟩] 39)) w3.heap.size 0 [.int .i64 1, .int .i64 2, .bool false, .bool false, .bool true, .slice none 0 0, .slice none 0 0, .slice none 0 0, .slice none 0 0, .slice none 0 0, .slice none 0 0, .slice none 0 0, .slice none 0 0, .slice none 0 0, .slice none 0 0, .slice none 0 0, .string bA, .string bO, .string bX] = w4 at *
    generalize w3.heap.size = by_ at *
    replace hO : St [] w w4 [Chunk.blk by_ (calV cY nilPV).toArray 39, Chunk.blk bw (calV cW u).toArray 39, kP u openP] := hO
    clear hS hA
    have hS := hO
    clear hO
    refine Calls.mono (hS.step0 entryR) ?_
    rintro _ w5 ⟨rfl, hS⟩
    have hA := hS.alloc #[.int .i64 0, .int .i64 0, .bool false, .bool false, .bool false, .slice none 0 0, .slice none 0 0, .slice none 0 0, .slice none 0 0, .slice none 0 0, .slice none 0 0, .slice none 0 0, .slice none 0 0, .slice none 0 0, .slice none 0 0, .slice none 0 0, .string ⟨#[]⟩, .string ⟨#[]⟩, .string ⟨#[]⟩] 39
    have hO := hA.over 0 rfl (calV cN nilPV) rfl
    refine ⟨_, _, _, rfl, (hA.blk 0 rfl).can (by simp), ?_⟩
    change St [] w (setCs (World.alloc w5 (.cells #[.int .i64 0, .int .i64 0, .bool false, .bool false, .bool false, .slice none 0 0, .slice none 0 0, .slice none 0 0, .slice none 0 0, .slice none 0 0, .slice none 0 0, .slice none 0 0, .slice none 0 0, .slice none 0 0, .slice none 0 0, .slice none 0 0, .string ⟨#[]⟩, .string ⟨#[]⟩, .string ⟨#[]⟩] 39)) w5.heap.size 0 [.int .i64 4, .int .i64 5, .bool false, .bool false, .bool false, .slice none 0 0, .slice none 0 0, .slice none 0 0, .slice none 0 0, .slice none 0 0, .slice none 0 0, .slice none 0 0, .slice none 0 0, .slice none 0 0, .slice none 0 0, .slice none 0 0, .string bA, .string bO, .string bX]) _ at hO
    generalize setCs (World.alloc w5 (.cells #[.int .i64 0, .int .i64 0, .bool false, .bool false, .bool false, .slice none 0 0, .slice none 0 0, .slice none 0 0, .slice none 0 0, .slice none 0 0, .slice none 0 0, .slice none 0 0, .slice none 0 0, .slice none 0 0, .slice none 0 0, .slice none 0 0, .string ⟨#[]⟩, .string ⟨#[]⟩, .string ⟨#[]⟩] 39)) w5.heap.size 0 [.int .i64 4, .int .i64 5, .bool false, .bool false, .bool false, .slice none 0 0, .slice none 0 0, .slice none 0 0, .slice none 0 0, .slice none 0 0, .slice none 0 0, .slice none 0 0, .slice none 0 0, .slice none 0 0, .slice none 0 0, .slice none 0 0, .string bA, .string bO, .string bX] = w6 at *
    generalize w5.heap.size = bn at *
    replace hO : St [] w w6 [Chunk.blk bn (calV cN nilPV).toArray 39, Chunk.blk by_ (calV cY nilPV).toArray 39, Chunk.blk bw (calV cW u).toArray 39, kP u openP] := hO
    clear hS hA
    have hS := hO
    clear hO
    refine ⟨fun A n c b x w' => b = true ∧ x = 0 ∧ St [] w w' [Chunk.sl 3 1 (.slice A n c) (rowsI [0, 1]), Chunk.blk bn (calV cN nilPV).toArray 39, Chunk.blk by_ (calV cY nilPV).toArray 39, Chunk.blk bw (calV cW u).toArray 39, kP u openP], ⟨fun v A n c w' => ∃ (u1 : PV) (bl : Nat), v = u1.v ∧ A = some ⟨bl, 0, none⟩ ∧ n = 2 ∧ c = 2 ∧ St [] w w' [kP u1 shutP, Chunk.blk bl (calV cW u ++ calV cY nilPV).toArray 39, Chunk.blk bn (calV cN nilPV).toArray 39, Chunk.blk by_ (calV cY nilPV).toArray 39, Chunk.blk bw (calV cW u).toArray 39, kP u openP], ?_, ?_⟩, ?_⟩
    · have hW := hS.blk 2 rfl
      have hO := hS.blk 1 rfl
      refine ⟨_, hW.cell rfl, _, hW.cell rfl, _, hW.cell rfl, _, hW.cell rfl, _, hW.cell rfl, _, _, _, hW.cell rfl, _, _, _, hW.cell rfl, _, _, _, hW.cell rfl, _, _, _, hW.cell rfl, _, _, _, hW.cell rfl, _, _, _, hW.cell rfl, _, _, _, hW.cell rfl, _, _, _, hW.cell rfl, _, _, _, hW.cell rfl, _, _, _, hW.cell rfl, _, _, _, hW.cell rfl, _, hW.cell rfl, _, hW.cell rfl, _, hW.cell rfl, _, hO.cell rfl, _, hO.cell rfl, _, hO.cell rfl, _, hO.cell rfl, _, hO.cell rfl, _, _, _, hO.cell rfl, _, _, _, hO.cell rfl, _, _, _, hO.cell rfl, _, _, _, hO.cell rfl, _, _, _, hO.cell rfl, _, _, _, hO.cell rfl, _, _, _, hO.cell rfl, _, _, _, hO.cell rfl, _, _, _, hO.cell rfl, _, _, _, hO.cell rfl, _, _, _, hO.cell rfl, _, hO.cell rfl, _, hO.cell rfl, _, hO.cell rfl, ?_, ?_, trivial⟩
      · refine Calls.mono shutR ?_
        rintro _ w2 ⟨u1, rfl, hf⟩
        have h1 := hS.drew.gone hf
        have h2 := h1.alloc (calV cW u ++ calV cY nilPV).toArray 39
        exact ⟨_, _, _, _, _, _, _, _, _, _, _, _, _, _, _, _, _, _, _, _, _, _, _, _, _, _, _, _, _, _, _, _, _, rfl, ⟨still_blk (h1.blk 2 rfl), still_blk (h1.blk 3 rfl), trivial⟩, ⟨still_blk (h2.blk 3 rfl), still_blk (h2.blk 4 rfl), trivial⟩, rfl, u1, _, rfl, rfl, rfl, rfl, h2.sel [1, 0, 2, 3, 4, 5] (by decide) [kP u1 shutP, Chunk.blk _ (calV cW u ++ calV cY nilPV).toArray 39, Chunk.blk bn (calV cN nilPV).toArray 39, Chunk.blk by_ (calV cY nilPV).toArray 39, Chunk.blk bw (calV cW u).toArray 39, kP u openP] rfl⟩
      · have h1 := hS.drew.alloc (calV cW u ++ calV cY nilPV).toArray 39
        refine ⟨⟨still_blk (h1.blk 2 rfl), still_blk (h1.blk 3 rfl), trivial⟩, Calls.mono shutR ?_⟩
        rintro _ w2 ⟨u1, rfl, hf⟩
        have h2 := h1.gone hf
        exact ⟨_, _, _, _, _, _, _, _, _, _, _, _, _, _, _, _, _, _, _, _, _, _, _, _, _, _, _, _, _, _, _, _, _, rfl, ⟨still_blk (h2.blk 3 rfl), still_blk (h2.blk 4 rfl), trivial⟩, rfl, u1, _, rfl, rfl, rfl, rfl, h2⟩
    · rintro d v A n c w2 ⟨u1, bl, rfl, rfl, rfl, rfl, h1⟩
      have hB := h1.blk 1 rfl
      have hL := linearC (h1.says 0 rfl) (calls_rd hB (h1.says 5 rfl) rfl (by kernel_rfl) (by kernel_rfl) (by kernel_rfl) (by kernel_rfl)) shut_small smallY
      rw [ansY, show fitE [cW, cY] = 0 from rfl] at hL
      refine Calls.mono hL ?_
      rintro _ w3 ⟨o, rfl, hf⟩
      have h2 := h1.gone hf
      exact ⟨_, _, _, _, _, rfl, trivial, rfl, rfl, rfl, h2.sel [0, 3, 4, 5, 6] (by decide) [Chunk.sl 3 1 o.v (rowsI [0, 1]), Chunk.blk bn (calV cN nilPV).toArray 39, Chunk.blk by_ (calV cY nilPV).toArray 39, Chunk.blk bw (calV cW u).toArray 39, kP u openP] rfl⟩
    clear hS w6
    rintro d A4 n4 c4 b5 x6 w6 ⟨rfl, rfl, hS⟩
    refine ⟨fun A n c b x w' => b = false ∧ x = 0 ∧ n = 0 ∧ St [] w w' [Chunk.sl 3 1 (.slice A4 n4 c4) (rowsI [0, 1]), Chunk.blk bn (calV cN nilPV).toArray 39, Chunk.blk by_ (calV cY nilPV).toArray 39, Chunk.blk bw (calV cW u).toArray 39, kP u openP], ⟨fun v A n c w' => ∃ (u1 : PV) (bl : Nat), v = u1.v ∧ A = some ⟨bl, 0, none⟩ ∧ n = 2 ∧ c = 2 ∧ St [] w w' [kP u1 shutP, Chunk.blk bl (calV cW u ++ calV cN nilPV).toArray 39, Chunk.sl 3 1 (.slice A4 n4 c4) (rowsI [0, 1]), Chunk.blk bn (calV cN nilPV).toArray 39, Chunk.blk by_ (calV cY nilPV).toArray 39, Chunk.blk bw (calV cW u).toArray 39, kP u openP], ?_, ?_⟩, ?_⟩
    · have hW := hS.blk 3 rfl
      have hO := hS.blk 1 rfl
      refine ⟨_, hW.cell rfl, _, hW.cell rfl, _, hW.cell rfl, _, hW.cell rfl, _, hW.cell rfl, _, _, _, hW.cell rfl, _, _, _, hW.cell rfl, _, _, _, hW.cell rfl, _, _, _, hW.cell rfl, _, _, _, hW.cell rfl, _, _, _, hW.cell rfl, _, _, _, hW.cell rfl, _, _, _, hW.cell rfl, _, _, _, hW.cell rfl, _, _, _, hW.cell rfl, _, _, _, hW.cell rfl, _, hW.cell rfl, _, hW.cell rfl, _, hW.cell rfl, _, hO.cell rfl, _, hO.cell rfl, _, hO.cell rfl, _, hO.cell rfl, _, hO.cell rfl, _, _, _, hO.cell rfl, _, _, _, hO.cell rfl, _, _, _, hO.cell rfl, _, _, _, hO.cell rfl, _, _, _, hO.cell rfl, _, _, _, hO.cell rfl, _, _, _, hO.cell rfl, _, _, _, hO.cell rfl, _, _, _, hO.cell rfl, _, _, _, hO.cell rfl, _, _, _, hO.cell rfl, _, hO.cell rfl, _, hO.cell rfl, _, hO.cell rfl, ?_, ?_, trivial⟩
      · refine Calls.mono shutR ?_
        rintro _ w2 ⟨u1, rfl, hf⟩
        have h1 := hS.drew.gone hf
        have h2 := h1.alloc (calV cW u ++ calV cN nilPV).toArray 39
        exact ⟨_, _, _, _, _, _, _, _, _, _, _, _, _, _, _, _, _, _, _, _, _, _, _, _, _, _, _, _, _, _, _, _, _, rfl, ⟨still_blk (h1.blk 2 rfl), still_blk (h1.blk 4 rfl), trivial⟩, ⟨still_blk (h2.blk 3 rfl), still_blk (h2.blk 5 rfl), trivial⟩, rfl, u1, _, rfl, rfl, rfl, rfl, h2.sel [1, 0, 2, 3, 4, 5, 6] (by decide) [kP u1 shutP, Chunk.blk _ (calV cW u ++ calV cN nilPV).toArray 39, Chunk.sl 3 1 (.slice A4 n4 c4) (rowsI [0, 1]), Chunk.blk bn (calV cN nilPV).toArray 39, Chunk.blk by_ (calV cY nilPV).toArray 39, Chunk.blk bw (calV cW u).toArray 39, kP u openP] rfl⟩
      · have h1 := hS.drew.alloc (calV cW u ++ calV cN nilPV).toArray 39
        refine ⟨⟨still_blk (h1.blk 2 rfl), still_blk (h1.blk 4 rfl), trivial⟩, Calls.mono shutR ?_⟩
        rintro _ w2 ⟨u1, rfl, hf⟩
        have h2 := h1.gone hf
        exact ⟨_, _, _, _, _, _, _, _, _, _, _, _, _, _, _, _, _, _, _, _, _, _, _, _, _, _, _, _, _, _, _, _, _, rfl, ⟨still_blk (h2.blk 3 rfl), still_blk (h2.blk 5 rfl), trivial⟩, rfl, u1, _, rfl, rfl, rfl, rfl, h2⟩
    · rintro d v A n c w2 ⟨u1, bl, rfl, rfl, rfl, rfl, h1⟩
      have hB := h1.blk 1 rfl
      have hL := linearC (h1.says 0 rfl) (calls_rd hB (h1.says 6 rfl) rfl (by kernel_rfl) (by kernel_rfl) (by kernel_rfl) (by kernel_rfl)) shut_small smallN
      rw [ansN, show fitE [cW, cN] = 0 from rfl] at hL
      refine Calls.mono hL ?_
      rintro _ w3 ⟨o, rfl, hf⟩
      have h2 := h1.gone hf
      have hz : o.2.1 = 0 := h2.slLen 0 rfl
      exact ⟨_, _, _, _, _, rfl, trivial, rfl, rfl, rfl, hz, h2.sel [3, 4, 5, 6, 7] (by decide) [Chunk.sl 3 1 (.slice A4 n4 c4) (rowsI [0, 1]), Chunk.blk bn (calV cN nilPV).toArray 39, Chunk.blk by_ (calV cY nilPV).toArray 39, Chunk.blk bw (calV cW u).toArray 39, kP u openP] rfl⟩
    clear hS w6
    rintro d A7 n7 c7 b8 x9 w6 ⟨rfl, rfl, rfl, hS⟩
    refine ⟨fun b w' => b = true ∧ St [] w w' [Chunk.sl 3 1 (.slice A4 n4 c4) (rowsI [0, 1]), Chunk.blk bn (calV cN nilPV).toArray 39, Chunk.blk by_ (calV cY nilPV).toArray 39, Chunk.blk bw (calV cW u).toArray 39, kP u openP], ⟨fun v A n c B m k w' => ∃ (u1 : PV) (bl bi : Nat), v = u1.v ∧ A = some ⟨bl, 0, none⟩ ∧ n = 2 ∧ c = 2 ∧ B = some ⟨bi, 0, none⟩ ∧ m = 2 ∧ k = 2 ∧ St [] w w' [kP u1 shutP, Chunk.blk bl (calV cW u ++ calV cY nilPV).toArray 39, Chunk.blk bi #[.int .i64 0, .int .i64 1] 3, Chunk.sl 3 1 (.slice A4 n4 c4) (rowsI [0, 1]), Chunk.blk bn (calV cN nilPV).toArray 39, Chunk.blk by_ (calV cY nilPV).toArray 39, Chunk.blk bw (calV cW u).toArray 39, kP u openP], ?_, ?_⟩, ?_⟩
    · have hW := hS.blk 3 rfl
      have hO := hS.blk 2 rfl
      refine ⟨_, hW.cell rfl, _, hW.cell rfl, _, hW.cell rfl, _, hW.cell rfl, _, hW.cell rfl, _, _, _, hW.cell rfl, _, _, _, hW.cell rfl, _, _, _, hW.cell rfl, _, _, _, hW.cell rfl, _, _, _, hW.cell rfl, _, _, _, hW.cell rfl, _, _, _, hW.cell rfl, _, _, _, hW.cell rfl, _, _, _, hW.cell rfl, _, _, _, hW.cell rfl, _, _, _, hW.cell rfl, _, hW.cell rfl, _, hW.cell rfl, _, hW.cell rfl, _, hO.cell rfl, _, hO.cell rfl, _, hO.cell rfl, _, hO.cell rfl, _, hO.cell rfl, _, _, _, hO.cell rfl, _, _, _, hO.cell rfl, _, _, _, hO.cell rfl, _, _, _, hO.cell rfl, _, _, _, hO.cell rfl, _, _, _, hO.cell rfl, _, _, _, hO.cell rfl, _, _, _, hO.cell rfl, _, _, _, hO.cell rfl, _, _, _, hO.cell rfl, _, _, _, hO.cell rfl, _, hO.cell rfl, _, hO.cell rfl, _, hO.cell rfl, ?_⟩
      have h0 := hS.drew
      refine ⟨?_, ?_, ?_, trivial⟩
      · refine Calls.mono shutR ?_
        rintro _ w20 ⟨u1, rfl, hf⟩
        have h1 := h0.gone hf
        refine ⟨_, _, _, _, _, _, _, _, _, _, _, _, _, _, _, _, _, _, _, _, _, _, _, _, _, _, _, _, _, _, _, _, _, rfl, ⟨still_blk (h1.blk 3 rfl), still_blk (h1.blk 4 rfl), trivial⟩, ?_⟩
        refine ⟨?_, ?_, trivial⟩
        · have h2 := h1.alloc (calV cW u ++ calV cY nilPV).toArray 39
          refine ⟨⟨still_blk (h2.blk 4 rfl), still_blk (h2.blk 5 rfl), trivial⟩, ?_⟩
          have h3 := h2.alloc #[.int .i64 0, .int .i64 1] 3
          refine ⟨⟨still_blk (h3.blk 5 rfl), still_blk (h3.blk 6 rfl), trivial⟩, ?_⟩
          exact ⟨rfl, u1, _, _, rfl, rfl, rfl, rfl, rfl, rfl, rfl, h3.sel [2, 1, 0, 3, 4, 5, 6, 7] (by decide) [kP u1 shutP, Chunk.blk _ (calV cW u ++ calV cY nilPV).toArray 39, Chunk.blk _ #[.int .i64 0, .int .i64 1] 3, Chunk.sl 3 1 (.slice A4 n4 c4) (rowsI [0, 1]), Chunk.blk bn (calV cN nilPV).toArray 39, Chunk.blk by_ (calV cY nilPV).toArray 39, Chunk.blk bw (calV cW u).toArray 39, kP u openP] rfl⟩
        · have h2 := h1.alloc #[.int .i64 0, .int .i64 1] 3
          refine ⟨⟨still_blk (h2.blk 4 rfl), still_blk (h2.blk 5 rfl), trivial⟩, ?_⟩
          have h3 := h2.alloc (calV cW u ++ calV cY nilPV).toArray 39
          refine ⟨⟨still_blk (h3.blk 5 rfl), still_blk (h3.blk 6 rfl), trivial⟩, ?_⟩
          exact ⟨rfl, u1, _, _, rfl, rfl, rfl, rfl, rfl, rfl, rfl, h3.sel [2, 0, 1, 3, 4, 5, 6, 7] (by decide) [kP u1 shutP, Chunk.blk _ (calV cW u ++ calV cY nilPV).toArray 39, Chunk.blk _ #[.int .i64 0, .int .i64 1] 3, Chunk.sl 3 1 (.slice A4 n4 c4) (rowsI [0, 1]), Chunk.blk bn (calV cN nilPV).toArray 39, Chunk.blk by_ (calV cY nilPV).toArray 39, Chunk.blk bw (calV cW u).toArray 39, kP u openP] rfl⟩
      · have h1 := h0.alloc (calV cW u ++ calV cY nilPV).toArray 39
        refine ⟨⟨still_blk (h1.blk 3 rfl), still_blk (h1.blk 4 rfl), trivial⟩, ?_⟩
        refine ⟨?_, ?_, trivial⟩
        · refine Calls.mono shutR ?_
          rintro _ w21 ⟨u1, rfl, hf⟩
          have h2 := h1.gone hf
          refine ⟨_, _, _, _, _, _, _, _, _, _, _, _, _, _, _, _, _, _, _, _, _, _, _, _, _, _, _, _, _, _, _, _, _, rfl, ⟨still_blk (h2.blk 4 rfl), still_blk (h2.blk 5 rfl), trivial⟩, ?_⟩
          have h3 := h2.alloc #[.int .i64 0, .int .i64 1] 3
          refine ⟨⟨still_blk (h3.blk 5 rfl), still_blk (h3.blk 6 rfl), trivial⟩, ?_⟩
          exact ⟨rfl, u1, _, _, rfl, rfl, rfl, rfl, rfl, rfl, rfl, h3.sel [1, 2, 0, 3, 4, 5, 6, 7] (by decide) [kP u1 shutP, Chunk.blk _ (calV cW u ++ calV cY nilPV).toArray 39, Chunk.blk _ #[.int .i64 0, .int .i64 1] 3, Chunk.sl 3 1 (.slice A4 n4 c4) (rowsI [0, 1]), Chunk.blk bn (calV cN nilPV).toArray 39, Chunk.blk by_ (calV cY nilPV).toArray 39, Chunk.blk bw (calV cW u).toArray 39, kP u openP] rfl⟩
        · have h2 := h1.alloc #[.int .i64 0, .int .i64 1] 3
          refine ⟨⟨still_blk (h2.blk 4 rfl), still_blk (h2.blk 5 rfl), trivial⟩, ?_⟩
          refine Calls.mono shutR ?_
          rintro _ w22 ⟨u1, rfl, hf⟩
          have h3 := h2.gone hf
          refine ⟨_, _, _, _, _, _, _, _, _, _, _, _, _, _, _, _, _, _, _, _, _, _, _, _, _, _, _, _, _, _, _, _, _, rfl, ⟨still_blk (h3.blk 5 rfl), still_blk (h3.blk 6 rfl), trivial⟩, ?_⟩
          exact ⟨rfl, u1, _, _, rfl, rfl, rfl, rfl, rfl, rfl, rfl, h3.sel [0, 2, 1, 3, 4, 5, 6, 7] (by decide) [kP u1 shutP, Chunk.blk _ (calV cW u ++ calV cY nilPV).toArray 39, Chunk.blk _ #[.int .i64 0, .int .i64 1] 3, Chunk.sl 3 1 (.slice A4 n4 c4) (rowsI [0, 1]), Chunk.blk bn (calV cN nilPV).toArray 39, Chunk.blk by_ (calV cY nilPV).toArray 39, Chunk.blk bw (calV cW u).toArray 39, kP u openP] rfl⟩
      · have h1 := h0.alloc #[.int .i64 0, .int .i64 1] 3
        refine ⟨⟨still_blk (h1.blk 3 rfl), still_blk (h1.blk 4 rfl), trivial⟩, ?_⟩
        refine ⟨?_, ?_, trivial⟩
        · refine Calls.mono shutR ?_
          rintro _ w21 ⟨u1, rfl, hf⟩
          have h2 := h1.gone hf
          refine ⟨_, _, _, _, _, _, _, _, _, _, _, _, _, _, _, _, _, _, _, _, _, _, _, _, _, _, _, _, _, _, _, _, _, rfl, ⟨still_blk (h2.blk 4 rfl), still_blk (h2.blk 5 rfl), trivial⟩, ?_⟩
          have h3 := h2.alloc (calV cW u ++ calV cY nilPV).toArray 39
          refine ⟨⟨still_blk (h3.blk 5 rfl), still_blk (h3.blk 6 rfl), trivial⟩, ?_⟩
          exact ⟨rfl, u1, _, _, rfl, rfl, rfl, rfl, rfl, rfl, rfl, h3.sel [1, 0, 2, 3, 4, 5, 6, 7] (by decide) [kP u1 shutP, Chunk.blk _ (calV cW u ++ calV cY nilPV).toArray 39, Chunk.blk _ #[.int .i64 0, .int .i64 1] 3, Chunk.sl 3 1 (.slice A4 n4 c4) (rowsI [0, 1]), Chunk.blk bn (calV cN nilPV).toArray 39, Chunk.blk by_ (calV cY nilPV).toArray 39, Chunk.blk bw (calV cW u).toArray 39, kP u openP] rfl⟩
        · have h2 := h1.alloc (calV cW u ++ calV cY nilPV).toArray 39
          refine ⟨⟨still_blk (h2.blk 4 rfl), still_blk (h2.blk 5 rfl), trivial⟩, ?_⟩
          refine Calls.mono shutR ?_
          rintro _ w22 ⟨u1, rfl, hf⟩
          have h3 := h2.gone hf
          refine ⟨_, _, _, _, _, _, _, _, _, _, _, _, _, _, _, _, _, _, _, _, _, _, _, _, _, _, _, _, _, _, _, _, _, rfl, ⟨still_blk (h3.blk 5 rfl), still_blk (h3.blk 6 rfl), trivial⟩, ?_⟩
          exact ⟨rfl, u1, _, _, rfl, rfl, rfl, rfl, rfl, rfl, rfl, h3.sel [0, 1, 2, 3, 4, 5, 6, 7] (by decide) [kP u1 shutP, Chunk.blk _ (calV cW u ++ calV cY nilPV).toArray 39, Chunk.blk _ #[.int .i64 0, .int .i64 1] 3, Chunk.sl 3 1 (.slice A4 n4 c4) (rowsI [0, 1]), Chunk.blk bn (calV cN nilPV).toArray 39, Chunk.blk by_ (calV cY nilPV).toArray 39, Chunk.blk bw (calV cW u).toArray 39, kP u openP] rfl⟩
    · rintro d v A n c B m k w1 ⟨u1, bl, bi, rfl, rfl, rfl, rfl, rfl, rfl, rfl, h1⟩
      refine ⟨fun b w' => b = true ∧ St [] w w' [Chunk.sl 3 1 (.slice A4 n4 c4) (rowsI [0, 1]), Chunk.blk bn (calV cN nilPV).toArray 39, Chunk.blk by_ (calV cY nilPV).toArray 39, Chunk.blk bw (calV cW u).toArray 39, kP u openP], ?_, ?_⟩
      · have hF := fun (o1 : List Int) (h : RdL (.int .i64) w1 (some ⟨bi, 0, none⟩, 2, 2) o1) (hl : o1.length ≤ 1000000000) => followsC (v := u1) (p := shutP) (x := (some ⟨bl, 0, none⟩, 2, 2)) (y := (some ⟨bi, 0, none⟩, 2, 2)) (l := [cW, cY]) (ord := o1) (h1.says 0 rfl) (calls_rd (c := cW) (d := cY) (h1.blk 1 rfl) (h1.says 7 rfl) rfl (by kernel_rfl) (by kernel_rfl) (by kernel_rfl) (by kernel_rfl)) h shut_small smallY hl
        refine Calls.mono (hF [0, 1] (ints_rd (h1.blk 2 rfl) (by kernel_rfl) (by kernel_rfl)) (by decide)) ?_
        rintro _ w2 ⟨m, rfl, hm, hf⟩
        have h2 := h1.go hf
        exact ⟨_, rfl, trivial, rfl, folY hm, h2.sel [3, 4, 5, 6, 7] (by decide) [Chunk.sl 3 1 (.slice A4 n4 c4) (rowsI [0, 1]), Chunk.blk bn (calV cN nilPV).toArray 39, Chunk.blk by_ (calV cY nilPV).toArray 39, Chunk.blk bw (calV cW u).toArray 39, kP u openP] rfl⟩
      · clear h1 w1 hS w6
        rintro d b45 w6 ⟨rfl, hS⟩
        refine ⟨fun v A n c B m k w' => ∃ (u1 : PV) (bl bi : Nat), v = u1.v ∧ A = some ⟨bl, 0, none⟩ ∧ n = 2 ∧ c = 2 ∧ B = some ⟨bi, 0, none⟩ ∧ m = 2 ∧ k = 2 ∧ St [] w w' [kP u1 shutP, Chunk.blk bl (calV cW u ++ calV cY nilPV).toArray 39, Chunk.blk bi #[.int .i64 1, .int .i64 0] 3, Chunk.sl 3 1 (.slice A4 n4 c4) (rowsI [0, 1]), Chunk.blk bn (calV cN nilPV).toArray 39, Chunk.blk by_ (calV cY nilPV).toArray 39, Chunk.blk bw (calV cW u).toArray 39, kP u openP], sel_true rfl ?_, ?_⟩
        · have hW := hS.blk 3 rfl
          have hO := hS.blk 2 rfl
          refine ⟨_, hW.cell rfl, _, hW.cell rfl, _, hW.cell rfl, _, hW.cell rfl, _, hW.cell rfl, _, _, _, hW.cell rfl, _, _, _, hW.cell rfl, _, _, _, hW.cell rfl, _, _, _, hW.cell rfl, _, _, _, hW.cell rfl, _, _, _, hW.cell rfl, _, _, _, hW.cell rfl, _, _, _, hW.cell rfl, _, _, _, hW.cell rfl, _, _, _, hW.cell rfl, _, _, _, hW.cell rfl, _, hW.cell rfl, _, hW.cell rfl, _, hW.cell rfl, _, hO.cell rfl, _, hO.cell rfl, _, hO.cell rfl, _, hO.cell rfl, _, hO.cell rfl, _, _, _, hO.cell rfl, _, _, _, hO.cell rfl, _, _, _, hO.cell rfl, _, _, _, hO.cell rfl, _, _, _, hO.cell rfl, _, _, _, hO.cell rfl, _, _, _, hO.cell rfl, _, _, _, hO.cell rfl, _, _, _, hO.cell rfl, _, _, _, hO.cell rfl, _, _, _, hO.cell rfl, _, hO.cell rfl, _, hO.cell rfl, _, hO.cell rfl, ?_⟩
          refine ⟨?_, ?_, ?_, trivial⟩
          · refine Calls.mono shutR ?_
            rintro _ w20 ⟨u1, rfl, hf⟩
            have h1 := hS.gone hf
            refine ⟨_, _, _, _, _, _, _, _, _, _, _, _, _, _, _, _, _, _, _, _, _, _, _, _, _, _, _, _, _, _, _, _, _, rfl, ⟨still_blk (h1.blk 3 rfl), still_blk (h1.blk 4 rfl), trivial⟩, ?_⟩
            refine ⟨?_, ?_, trivial⟩
            · have h2 := h1.alloc (calV cW u ++ calV cY nilPV).toArray 39
              refine ⟨⟨still_blk (h2.blk 4 rfl), still_blk (h2.blk 5 rfl), trivial⟩, ?_⟩
              have h3 := h2.alloc #[.int .i64 1, .int .i64 0] 3
              refine ⟨⟨still_blk (h3.blk 5 rfl), still_blk (h3.blk 6 rfl), trivial⟩, ?_⟩
              exact ⟨rfl, u1, _, _, rfl, rfl, rfl, rfl, rfl, rfl, rfl, h3.sel [2, 1, 0, 3, 4, 5, 6, 7] (by decide) [kP u1 shutP, Chunk.blk _ (calV cW u ++ calV cY nilPV).toArray 39, Chunk.blk _ #[.int .i64 1, .int .i64 0] 3, Chunk.sl 3 1 (.slice A4 n4 c4) (rowsI [0, 1]), Chunk.blk bn (calV cN nilPV).toArray 39, Chunk.blk by_ (calV cY nilPV).toArray 39, Chunk.blk bw (calV cW u).toArray 39, kP u openP] rfl⟩
            · have h2 := h1.alloc #[.int .i64 1, .int .i64 0] 3
              refine ⟨⟨still_blk (h2.blk 4 rfl), still_blk (h2.blk 5 rfl), trivial⟩, ?_⟩
              have h3 := h2.alloc (calV cW u ++ calV cY nilPV).toArray 39
              refine ⟨⟨still_blk (h3.blk 5 rfl), still_blk (h3.blk 6 rfl), trivial⟩, ?_⟩
              exact ⟨rfl, u1, _, _, rfl, rfl, rfl, rfl, rfl, rfl, rfl, h3.sel [2, 0, 1, 3, 4, 5, 6, 7] (by decide) [kP u1 shutP, Chunk.blk _ (calV cW u ++ calV cY nilPV).toArray 39, Chunk.blk _ #[.int .i64 1, .int .i64 0] 3, Chunk.sl 3 1 (.slice A4 n4 c4) (rowsI [0, 1]), Chunk.blk bn (calV cN nilPV).toArray 39, Chunk.blk by_ (calV cY nilPV).toArray 39, Chunk.blk bw (calV cW u).toArray 39, kP u openP] rfl⟩
          · have h1 := hS.alloc (calV cW u ++ calV cY nilPV).toArray 39
            refine ⟨⟨still_blk (h1.blk 3 rfl), still_blk (h1.blk 4 rfl), trivial⟩, ?_⟩
            refine ⟨?_, ?_, trivial⟩
            · refine Calls.mono shutR ?_
              rintro _ w21 ⟨u1, rfl, hf⟩
              have h2 := h1.gone hf
              refine ⟨_, _, _, _, _, _, _, _, _, _, _, _, _, _, _, _, _, _, _, _, _, _, _, _, _, _, _, _, _, _, _, _, _, rfl, ⟨still_blk (h2.blk 4 rfl), still_blk (h2.blk 5 rfl), trivial⟩, ?_⟩
              have h3 := h2.alloc #[.int .i64 1, .int .i64 0] 3
              refine ⟨⟨still_blk (h3.blk 5 rfl), still_blk (h3.blk 6 rfl), trivial⟩, ?_⟩
              exact ⟨rfl, u1, _, _, rfl, rfl, rfl, rfl, rfl, rfl, rfl, h3.sel [1, 2, 0, 3, 4, 5, 6, 7] (by decide) [kP u1 shutP, Chunk.blk _ (calV cW u ++ calV cY nilPV).toArray 39, Chunk.blk _ #[.int .i64 1, .int .i64 0] 3, Chunk.sl 3 1 (.slice A4 n4 c4) (rowsI [0, 1]), Chunk.blk bn (calV cN nilPV).toArray 39, Chunk.blk by_ (calV cY nilPV).toArray 39, Chunk.blk bw (calV cW u).toArray 39, kP u openP] rfl⟩
            · have h2 := h1.alloc #[.int .i64 1, .int .i64 0] 3
              refine ⟨⟨still_blk (h2.blk 4 rfl), still_blk (h2.blk 5 rfl), trivial⟩, ?_⟩
              refine Calls.mono shutR ?_
              rintro _ w22 ⟨u1, rfl, hf⟩
              have h3 := h2.gone hf
              refine ⟨_, _, _, _, _, _, _, _, _, _, _, _, _, _, _, _, _, _, _, _, _, _, _, _, _, _, _, _, _, _, _, _, _, rfl, ⟨still_blk (h3.blk 5 rfl), still_blk (h3.blk 6 rfl), trivial⟩, ?_⟩
              exact ⟨rfl, u1, _, _, rfl, rfl, rfl, rfl, rfl, rfl, rfl, h3.sel [0, 2, 1, 3, 4, 5, 6, 7] (by decide) [kP u1 shutP, Chunk.blk _ (calV cW u ++ calV cY nilPV).toArray 39, Chunk.blk _ #[.int .i64 1, .int .i64 0] 3, Chunk.sl 3 1 (.slice A4 n4 c4) (rowsI [0, 1]), Chunk.blk bn (calV cN nilPV).toArray 39, Chunk.blk by_ (calV cY nilPV).toArray 39, Chunk.blk bw (calV cW u).toArray 39, kP u openP] rfl⟩
          · have h1 := hS.alloc #[.int .i64 1, .int .i64 0] 3
            refine ⟨⟨still_blk (h1.blk 3 rfl), still_blk (h1.blk 4 rfl), trivial⟩, ?_⟩
            refine ⟨?_, ?_, trivial⟩
            · refine Calls.mono shutR ?_
              rintro _ w21 ⟨u1, rfl, hf⟩
              have h2 := h1.gone hf
              refine ⟨_, _, _, _, _, _, _, _, _, _, _, _, _, _, _, _, _, _, _, _, _, _, _, _, _, _, _, _, _, _, _, _, _, rfl, ⟨still_blk (h2.blk 4 rfl), still_blk (h2.blk 5 rfl), trivial⟩, ?_⟩
              have h3 := h2.alloc (calV cW u ++ calV cY nilPV).toArray 39
              refine ⟨⟨still_blk (h3.blk 5 rfl), still_blk (h3.blk 6 rfl), trivial⟩, ?_⟩
              exact ⟨rfl, u1, _, _, rfl, rfl, rfl, rfl, rfl, rfl, rfl, h3.sel [1, 0, 2, 3, 4, 5, 6, 7] (by decide) [kP u1 shutP, Chunk.blk _ (calV cW u ++ calV cY nilPV).toArray 39, Chunk.blk _ #[.int .i64 1, .int .i64 0] 3, Chunk.sl 3 1 (.slice A4 n4 c4) (rowsI [0, 1]), Chunk.blk bn (calV cN nilPV).toArray 39, Chunk.blk by_ (calV cY nilPV).toArray 39, Chunk.blk bw (calV cW u).toArray 39, kP u openP] rfl⟩
            · have h2 := h1.alloc (calV cW u ++ calV cY nilPV).toArray 39
              refine ⟨⟨still_blk (h2.blk 4 rfl), still_blk (h2.blk 5 rfl), trivial⟩, ?_⟩
              refine Calls.mono shutR ?_
              rintro _ w22 ⟨u1, rfl, hf⟩
              have h3 := h2.gone hf
              refine ⟨_, _, _, _, _, _, _, _, _, _, _, _, _, _, _, _, _, _, _, _, _, _, _, _, _, _, _, _, _, _, _, _, _, rfl, ⟨still_blk (h3.blk 5 rfl), still_blk (h3.blk 6 rfl), trivial⟩, ?_⟩
              exact ⟨rfl, u1, _, _, rfl, rfl, rfl, rfl, rfl, rfl, rfl, h3.sel [0, 1, 2, 3, 4, 5, 6, 7] (by decide) [kP u1 shutP, Chunk.blk _ (calV cW u ++ calV cY nilPV).toArray 39, Chunk.blk _ #[.int .i64 1, .int .i64 0] 3, Chunk.sl 3 1 (.slice A4 n4 c4) (rowsI [0, 1]), Chunk.blk bn (calV cN nilPV).toArray 39, Chunk.blk by_ (calV cY nilPV).toArray 39, Chunk.blk bw (calV cW u).toArray 39, kP u openP] rfl⟩
        · rintro d v A n c B m k w1 ⟨u1, bl, bi, rfl, rfl, rfl, rfl, rfl, rfl, rfl, h1⟩
          have hF := fun (o1 : List Int) (h : RdL (.int .i64) w1 (some ⟨bi, 0, none⟩, 2, 2) o1) (hl : o1.length ≤ 1000000000) => followsC (v := u1) (p := shutP) (x := (some ⟨bl, 0, none⟩, 2, 2)) (y := (some ⟨bi, 0, none⟩, 2, 2)) (l := [cW, cY]) (ord := o1) (h1.says 0 rfl) (calls_rd (c := cW) (d := cY) (h1.blk 1 rfl) (h1.says 7 rfl) rfl (by kernel_rfl) (by kernel_rfl) (by kernel_rfl) (by kernel_rfl)) h shut_small smallY hl
          refine sel_true rfl (Calls.mono (hF [1, 0] (ints_rd (h1.blk 2 rfl) (by kernel_rfl) (by kernel_rfl)) (by decide)) ?_)
          rintro _ w2 ⟨m, rfl, hm, hf⟩
          have h2 := h1.go hf
          have hm := folN hm
          subst hm
          exact ⟨_, rfl, trivial, rfl, rfl, h2.sel [3, 4, 5, 6, 7] (by decide) [Chunk.sl 3 1 (.slice A4 n4 c4) (rowsI [0, 1]), Chunk.blk bn (calV cN nilPV).toArray 39, Chunk.blk by_ (calV cY nilPV).toArray 39, Chunk.blk bw (calV cW u).toArray 39, kP u openP] rfl⟩
    clear hS w6
    rintro d b10 w6 ⟨rfl, hS⟩
    replace hS := hS.sel [0] (by decide) [Chunk.sl 3 1 (.slice A4 n4 c4) (rowsI [0, 1])] rfl
    refine ⟨fun b o w' => o = 0 ∧ ∃ (be bv : Nat) (u2 : PV), St [] w w' [Chunk.blk b (runC be bv) 67, Chunk.blk bv (verC u2) 62, kP u2 openP, Chunk.blk be (evC 0 false) 59, Chunk.sl 3 1 (.slice A4 n4 c4) (rowsI [0, 1])], ?_, ?_⟩
    · have h1 := hS.alloc (evC 0 false) 59
      refine Calls.mono openR ?_
      rintro _ w2 ⟨u2, rfl, hf⟩
      have h2 := h1.gone hf
      have h3 := h2.alloc (verC u2) 62
      have h4 := h3.alloc #[.int .i64 0, .slice none 0 0, .slice none 0 0, .slice none 0 0, .slice none 0 0, .slice none 0 0, .slice none 0 0, .slice none 0 0, .string ⟨#[]⟩, .int .i64 0] 67
      have h5 := h4.over 0 rfl (runC w6.heap.size w2.heap.size).toList rfl
      exact ⟨_, _, _, _, _, _, _, _, _, _, _, _, _, _, _, _, _, _, _, _, _, _, _, _, _, _, _, _, _, _, _, _, _, rfl, (h4.blk 0 rfl).can (by simp), rfl, rfl, w6.heap.size, w2.heap.size, u2, h5⟩
    clear hS w6
    rintro d br o11 w6 ⟨rfl, be, bv, u2, hS⟩
    refine ⟨fun A n c w' => ∃ bt bo : Nat, A = some ⟨bt, 0, none⟩ ∧ n = 1 ∧ c = 1 ∧ St [] w w' [Chunk.blk bt #[.slice (some ⟨bo, 0, none⟩) 1 1] 71, Chunk.blk bo opC 70, Chunk.blk br (runC be bv) 67, Chunk.blk bv (verC u2) 62, kP u2 openP, Chunk.blk be (evC 0 false) 59, Chunk.sl 3 1 (.slice A4 n4 c4) (rowsI [0, 1])], ?_, ?_⟩
    · refine Calls.mono (hS.step0 entryR) ?_
      rintro _ w2 ⟨rfl, h2⟩
      have h3 := h2.alloc opC 70
      have h4 := h3.alloc #[.slice (some ⟨w2.heap.size, 0, none⟩) 1 1] 71
      exact ⟨_, _, _, rfl, rfl, _, _, rfl, rfl, rfl, h4⟩
    clear hS w6
    rintro d A12 n12 c12 w6 ⟨bt, bo, rfl, rfl, rfl, hS⟩
    refine ⟨fun x w' => x = 1 ∧ St [] w w' [Chunk.blk bt #[.slice (some ⟨bo, 0, none⟩) 1 1] 71, Chunk.blk bo opC 70, Chunk.blk br (runC be bv) 67, Chunk.blk bv (verC u2) 62, kP u2 openP, Chunk.blk be (evC 0 false) 59, Chunk.sl 3 1 (.slice A4 n4 c4) (rowsI [0, 1])], ?_, ?_⟩
    · have hR := hS.blk 2 rfl
      have hrs : RunS w6 be bv bt bo 0 false u2 := ⟨⟨_, hS.blk 5 rfl⟩, ⟨_, hS.blk 3 rfl⟩, hS.says 4 rfl, ⟨_, hS.blk 0 rfl⟩, ⟨_, hS.blk 1 rfl⟩⟩
      refine ⟨_, hR.cell rfl, _, _, _, hR.cell rfl, _, _, _, hR.cell rfl, _, _, _, hR.cell rfl, _, _, _, hR.cell rfl, _, _, _, hR.cell rfl, _, _, _, hR.cell rfl, _, _, _, hR.cell rfl, _, hR.cell rfl, _, hR.cell rfl, Calls.mono (breachR hrs (by decide)) ?_⟩
      rintro _ w2 ⟨rfl, hf⟩
      exact ⟨_, rfl, rfl, rfl, hS.go hf⟩
    clear hS w6
    rintro d x13 w6 ⟨rfl, hS⟩
    have hR := hS.blk 2 rfl
    have h1 := hS.set 5 rfl 8 [.bool true]
    rw [putEv1] at h1
    refine ⟨_, _, _, hR.cell rfl, by decide, by decide, needPtr_of rfl ⟨(hS.blk 5 rfl).can (by simp), ?_⟩⟩
    refine ⟨fun w' => St [] w w' [Chunk.blk bt #[.slice (some ⟨bo, 0, none⟩) 1 1] 71, Chunk.blk bo opC 70, Chunk.blk br (runC be bv) 67, Chunk.blk bv (verC u2) 62, kP u2 openP, Chunk.blk be (evC 11 true) 59, Chunk.sl 3 1 (.slice A4 n4 c4) (rowsI [0, 1])], ?_, ?_⟩
    · have hR1 := h1.blk 2 rfl
      have h2 := h1.set 5 rfl 6 [.int .i64 11]
      rw [putEv2] at h2
      exact ⟨_, _, _, hR1.cell rfl, by decide, by decide, needPtr_of rfl ⟨(h1.blk 5 rfl).can (by simp), rfl, h2⟩⟩
    clear h1 hR hS w6
    rintro d w6 hS
    refine ⟨fun x w' => x = 0 ∧ St [] w w' [Chunk.blk bt #[.slice (some ⟨bo, 0, none⟩) 1 1] 71, Chunk.blk bo opC 70, Chunk.blk br (runC be bv) 67, Chunk.blk bv (verC u2) 62, kP u2 openP, Chunk.blk be (evC 11 true) 59, Chunk.sl 3 1 (.slice A4 n4 c4) (rowsI [0, 1])], ?_, ?_⟩
    · have hR := hS.blk 2 rfl
      have hrs : RunS w6 be bv bt bo 11 true u2 := ⟨⟨_, hS.blk 5 rfl⟩, ⟨_, hS.blk 3 rfl⟩, hS.says 4 rfl, ⟨_, hS.blk 0 rfl⟩, ⟨_, hS.blk 1 rfl⟩⟩
      refine ⟨_, hR.cell rfl, _, _, _, hR.cell rfl, _, _, _, hR.cell rfl, _, _, _, hR.cell rfl, _, _, _, hR.cell rfl, _, _, _, hR.cell rfl, _, _, _, hR.cell rfl, _, _, _, hR.cell rfl, _, hR.cell rfl, _, hR.cell rfl, Calls.mono (breachR hrs (by decide)) ?_⟩
      rintro _ w2 ⟨rfl, hf⟩
      exact ⟨_, rfl, rfl, rfl, hS.go hf⟩
    clear hS w6
    rintro d x14 w6 ⟨rfl, hS⟩
    have hn : n4 = 2 := hS.slLen 6 rfl
    obtain ⟨g, hg, hc⟩ := hS.slGet 6 rfl (by decide)
    subst hn
    have c0 := hc 0 0 (.int .i64 0) (by decide) (by decide) rfl
    have c1 := hc 1 0 (.int .i64 1) (by decide) (by decide) rfl
    exact sel_true rfl (sel_true rfl (sel_true rfl ⟨by decide, by decide, needPtr_of hg ⟨_, c0, sel_true rfl ⟨by decide, by decide, needPtr_of hg ⟨_, c1, sel_true rfl (sel_true rfl (sel_true rfl (sel_true rfl (sel_true rfl (sel_true rfl ⟨rfl, hS.frame⟩)))))⟩⟩⟩⟩))
  · rintro e w' ⟨v, rfl, rfl, h⟩; exact ⟨rfl, h⟩
end JG
end Go.Proofs.Ytddbebhklmaeoaa
/- Lists of numbers in their order. -/
set_option linter.unusedVariables false
set_option linter.unusedSimpArgs false
set_option maxRecDepth 10000
namespace Go.Proofs.Ytddbebhklmaeoaa
open Go Go.Proofs.Ytddbebhklmaeoaa.Vc
namespace JG
open Vc.PG JD
theorem lessP_drop : ∀ (a b : List Int) (k : Nat), k ≤ a.length → k ≤ b.length → (∀ i, i < k → a.getD i 0 = b.getD i 0) → JL.lessP a b = JL.lessP (a.drop k) (b.drop k)
  | _, _, 0, _, _, _ => by simp
  | [], _, k + 1, h, _, _ => by simp at h
  | _ :: _, [], k + 1, _, h, _ => by simp at h
  | x :: a, y :: b, k + 1, h1, h2, h => by
    have h0 := h 0 (by omega)
    have h0 : x = y := h0
    subst h0
    rw [List.drop_succ_cons, List.drop_succ_cons, ← lessP_drop a b k (by simpa using h1) (by simpa using h2) (fun i hi => by have := h (i + 1) (by omega); simpa using this)]
    rw [JL.lessP]
    simp
theorem lessR {w : World} {x y : Sl} {a b : List Int} (hx : RdL (.int .i64) w x a) (hy : RdL (.int .i64) w y b) (ha : a.length ≤ 1000000000) (hb : b.length ≤ 1000000000) :
    Calls Try.prog 21 #[x.v, y.v] w fun e w' => e = .returned (.bool (JL.lessP a b)) ∧ Fr [] w w' := by
  refine Calls.mono (f21.calls (R := fun e w' => e = .bool (JL.lessP a b) ∧ Fr [] w w') ?_) ?_
  · dsimp only [f21.VC]
    have h1 : x.2.1 = a.length := hx.1
    have h2 : y.2.1 = b.length := hy.1
    refine ⟨fun i w' r => Fr [] w w' ∧ ∃ k : Nat, i = (k : Int) ∧ k + r = x.2.1 ∧ k ≤ y.2.1 ∧ ∀ i, i < k → a.getD i 0 = b.getD i 0, ⟨x.2.1, Fr.refl _ _, 0, rfl, by omega, by omega, fun i hi => by omega⟩, ?_⟩
    rintro d i w1 r ⟨hf, k, rfl, hk, hky, heq⟩
    have hdr := lessP_drop a b k (by omega) (by omega) heq
    refine sel_of (fun hd => sel_of (fun hd2 => ?_) (fun hd2 => ⟨?_, hf⟩)) (fun hd => ⟨?_, hf⟩)
    · have hi : k < x.2.1 := by have := of_decide_eq_true hd; omega
      have hj : k < y.2.1 := by have := of_decide_eq_true hd2; omega
      obtain ⟨b1, o1, hA, hc⟩ := RdL.int (hx.fr hf) (by omega)
      obtain ⟨b2, o2, hB, he⟩ := RdL.int (hy.fr hf) (by omega)
      rw [drop_cons 0 a k (by omega), drop_cons 0 b k (by omega), JL.lessP] at hdr
      rw [inc k x.2.1 (by omega) (by omega)]
      refine ⟨by omega, by omega, needPtr_of hA ⟨by omega, by omega, needPtr_of hB ⟨_, hc k hi, _, he k hj, sel_of (fun hs => ?_) (fun hs => ⟨rfl, r - 1, by omega, hf.drew, k + 1, rfl, by omega, by omega, fun i hi => ?_⟩)⟩⟩⟩
      · have hs : a.getD k 0 ≠ b.getD k 0 := bne_iff_ne.1 hs
        refine ⟨by omega, by omega, needPtr_of hA ⟨by omega, by omega, needPtr_of hB ⟨_, hc k hi, _, he k hj, ?_, hf.drew.drew⟩⟩⟩
        rw [hdr, if_neg hs]
      · have hs : a.getD k 0 = b.getD k 0 := bne_eq_false_iff_eq.1 hs
        rcases Nat.lt_or_ge i k with h | h
        · exact heq i h
        · have : i = k := by omega
          rw [this]; exact hs
    · have hi : k < x.2.1 := by have := of_decide_eq_true hd; omega
      have hj : k = y.2.1 := by have := of_decide_eq_false hd2; omega
      rw [hdr, drop_cons 0 a k (by omega), List.drop_of_length_le (show b.length ≤ k by omega), JL.lessP]
      exact congrArg Value.bool (decide_eq_false (by omega))
    · have hi : k = x.2.1 := by have := of_decide_eq_false hd; omega
      rw [hdr, List.drop_of_length_le (show a.length ≤ k by omega)]
      cases hb' : b.drop k with
      | nil =>
        have : b.length ≤ k := List.drop_eq_nil_iff.1 hb'
        rw [JL.lessP]
        exact congrArg Value.bool (decide_eq_false (by omega))
      | cons z l =>
        have : k < b.length := by
          rcases Nat.lt_or_ge k b.length with h | h
          · exact h
          · rw [List.drop_of_length_le h] at hb'; cases hb'
        rw [JL.lessP]
        exact congrArg Value.bool (decide_eq_true (by omega))
  · rintro e w' ⟨v, rfl, rfl, h⟩; exact ⟨rfl, h⟩
end JG
end Go.Proofs.Ytddbebhklmaeoaa
