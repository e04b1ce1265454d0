/- A run's promises, of the small run that the statements begin with. -/
import Derived.Test.YtddbebhklmaeoaaM23
import Derived.Test.YtddbebhklmaeoaaM24
import Derived.Test.YtddbebhklmaeoaaM5
import Derived.Test.YtddbebhklmaeoaaProg
import Derived.KernelRfl
set_option linter.unusedVariables false
set_option linter.unusedSimpArgs false
set_option maxRecDepth 10000
namespace Go.Proofs.Ytddbebhklmaeoaa
open Go Go.Proofs.Ytddbebhklmaeoaa.Vc
namespace JG
open Vc.PG JD
abbrev evC (st : Int) (al : Bool) : Array Value := #[.int .i64 0, .int .i64 0, .int .i8 3, .int .i64 0, .int .i64 4, .int .i64 2, .int .i64 st, .int .i64 0, .bool al, .int .i64 7, .bool false, .bool false]
abbrev verC (u : PV) : Array Value := #[.int .i64 7, .int .i64 0, .int .i64 0, .int .i64 (-1), .int .i64 (-1), u.a.v, u.s.v, u.r.v, u.o.v, u.g.v, u.m.v, u.i.v, u.q.v, u.t.v, u.u.v, u.e.v]
abbrev runC (be bv : Nat) : Array Value := #[.int .i64 0, .slice (some ⟨be, 0, none⟩) 1 1, .slice none 0 0, .slice none 0 0, .slice (some ⟨bv, 0, none⟩) 1 1, .slice none 0 0, .slice none 0 0, .slice none 0 0, .string ⟨#[]⟩, .int .i64 0]
abbrev opC : Array Value := #[.int .i8 3, .string bA, .string bO, .string bX, .string ⟨#[]⟩, .slice none 0 0]
/-- The small run, and its tasks. -/
structure RunS (w : World) (be bv bt bo : Nat) (st : Int) (al : Bool) (u : PV) : Prop where
  ev : ∃ T, Blk w be (evC st al) T
  ver : ∃ T, Blk w bv (verC u) T
  pol : InP w u openP
  tk : ∃ T, Blk w bt #[.slice (some ⟨bo, 0, none⟩) 1 1] T
  op : ∃ T, Blk w bo opC T
theorem RunS.fr {w w' : World} {be bv bt bo : Nat} {st : Int} {al : Bool} {u : PV} (h : RunS w be bv bt bo st al u) (hf : Fr [] w w') : RunS w' be bv bt bo st al u := by
  obtain ⟨⟨T1, h1⟩, ⟨T2, h2⟩, h3, ⟨T4, h4⟩, ⟨T5, h5⟩⟩ := h
  exact ⟨⟨T1, hf.blk h1 (by simp)⟩, ⟨T2, hf.blk h2 (by simp)⟩, h3.fr hf, ⟨T4, hf.blk h4 (by simp)⟩, ⟨T5, hf.blk h5 (by simp)⟩⟩
section
variable {w : World} {be bv bt bo : Nat} {st : Int} {al : Bool} {u : PV}
theorem wellR : Calls Try.prog 70 #[.agg (evC st al)] w fun e w' => e = .returned (.bool true) ∧ Fr [] w w' := by
  refine Calls.mono (f70.calls (R := fun e w' => e = .bool true ∧ Fr [] w w') ?_) ?_
  · dsimp only [f70.VC]
    have hS := (St.start w).alloc (evC st al) 59
    have hB := hS.blk 0 rfl
    exact ⟨_, hB.cell rfl, sel_true rfl ⟨_, hB.cell rfl, rfl, hS.frame⟩⟩
  · rintro e w' ⟨v, rfl, rfl, h⟩; exact ⟨rfl, h⟩
theorem writeR : Calls Try.prog 71 #[.agg (evC st al)] w fun e w' => e = .returned (.bool false) ∧ Fr [] w w' := by
  refine Calls.mono (f71.calls (R := fun e w' => e = .bool false ∧ Fr [] w w') ?_) ?_
  · dsimp only [f71.VC]
    have hS := (St.start w).alloc (evC st al) 59
    have hB := hS.blk 0 rfl
    exact ⟨_, hB.cell rfl, sel_false rfl ⟨_, hB.cell rfl, sel_false rfl ⟨_, hB.cell rfl, rfl, hS.frame⟩⟩⟩
  · rintro e w' ⟨v, rfl, rfl, h⟩; exact ⟨rfl, h⟩
theorem readR' : Calls Try.prog 74 #[.agg (evC st al)] w fun e w' => e = .returned (.bool true) ∧ Fr [] w w' := by
  refine Calls.mono (f74.calls (R := fun e w' => e = .bool true ∧ Fr [] w w') ?_) ?_
  · dsimp only [f74.VC]
    have hS := (St.start w).alloc (evC st al) 59
    have hB := hS.blk 0 rfl
    exact ⟨_, hB.cell rfl, sel_true rfl ⟨rfl, hS.frame⟩⟩
  · rintro e w' ⟨v, rfl, rfl, h⟩; exact ⟨rfl, h⟩
theorem stepsR : Calls Try.prog 84 #[.int .i64 0] w fun e w' => e = .returned (.int .i64 11) ∧ Fr [] w w' := by
  refine Calls.mono (f84.calls (R := fun e w' => e = .int .i64 11 ∧ Fr [] w w') ?_) ?_
  · dsimp only [f84.VC]
    exact sel_true rfl ⟨by decide, rfl, Fr.refl _ _⟩
  · rintro e w' ⟨v, rfl, rfl, h⟩; exact ⟨rfl, h⟩
theorem countingR (h : RunS w be bv bt bo st al u) : Calls Try.prog 75 #[.agg (runC be bv), .int .i64 2] w fun e w' => e = .returned (.pointer (some ⟨bv, 0, none⟩)) ∧ Fr [] w w' := by
  refine Calls.mono (f75.calls (R := fun e w' => e = .pointer (some ⟨bv, 0, none⟩) ∧ Fr [] w w') ?_) ?_
  · dsimp only [f75.VC]
    have hS := (St.start w).alloc (runC be bv) 67
    change St [] w (World.alloc w (.cells #[.int .i64 0, .slice (some ⟨be, 0, none⟩) 1 1, .slice none 0 0, .slice none 0 0, .slice (some ⟨bv, 0, none⟩) 1 1, .slice none 0 0, .slice none 0 0, .slice none 0 0, .string ⟨#[]⟩, .int .i64 0] 67)) _ at hS
    generalize World.alloc w (.cells #[.int .i64 0, .slice (some ⟨be, 0, none⟩) 1 1, .slice none 0 0, .slice none 0 0, .slice (some ⟨bv, 0, none⟩) 1 1, .slice none 0 0, .slice none 0 0, .slice none 0 0, .string ⟨#[]⟩, .int .i64 0] 67) = w1 at *
    generalize w.heap.size = b1 at *
    refine ⟨_, _, _, (hS.blk 0 rfl).cell rfl, fun p i w' r => St [] w w' [Chunk.blk b1 (runC be bv) 67] ∧ ((i = 0 ∧ p = none ∧ r = 1) ∨ (i = 1 ∧ p = some ⟨bv, 0, none⟩ ∧ r = 0)), ⟨1, hS, .inl ⟨rfl, rfl, rfl⟩⟩, ?_⟩
    clear hS w1
    rintro d p i w2 r ⟨hS, hc⟩
    have hB := hS.blk 0 rfl
    obtain ⟨_, hV⟩ := (h.fr hS.frame).ver
    rcases hc with ⟨rfl, rfl, rfl⟩ | ⟨rfl, rfl, rfl⟩
    · exact sel_true rfl ⟨_, _, _, hB.cell rfl, by decide, by decide, needPtr_of rfl ⟨_, hV.cell rfl, sel_true rfl (sel_true rfl ⟨rfl, 0, by omega, hS.drew, .inr ⟨rfl, rfl, rfl⟩⟩)⟩⟩
    · exact sel_false rfl ⟨rfl, hS.frame⟩
  · rintro e w' ⟨v, rfl, rfl, h⟩; exact ⟨rfl, h⟩
theorem tripleR (h : RunS w be bv bt bo st al u) : Calls Try.prog 76 #[.slice (some ⟨bt, 0, none⟩) 1 1, .agg (evC st al)] w fun e w' => e = .returned (Tri bA bO bX) ∧ Fr [] w w' := by
  refine Calls.mono (f76.calls (R := fun e w' => e = Tri bA bO bX ∧ Fr [] w w') ?_) ?_
  · dsimp only [f76.VC]
    have hS := ((St.start w).alloc (evC st al) 59).alloc #[.string ⟨#[]⟩, .string ⟨#[]⟩, .string ⟨#[]⟩] 37
    obtain ⟨_, hT⟩ := (h.fr hS.frame).tk
    obtain ⟨_, hO⟩ := (h.fr hS.frame).op
    have hB := hS.blk 1 rfl
    have hE := hS.drew.drew.over 0 rfl [.string bA, .string bO, .string bX] rfl
    have hB2 := hE.blk 0 rfl
    exact ⟨_, hB.cell rfl, sel_false rfl ⟨_, hB.cell rfl, sel_false rfl ⟨_, hB.cell rfl, sel_false rfl ⟨_, hB.cell rfl, _, hB.cell rfl, by decide, by decide, needPtr_of rfl ⟨_, _, _, hT.cell rfl, sel_false rfl ⟨_, hB.cell rfl, by decide, by decide, needPtr_of rfl ⟨_, _, _, hT.cell rfl, _, hB.cell rfl, by decide, by decide, needPtr_of rfl ⟨_, hO.cell rfl, _, hO.cell rfl, _, hO.cell rfl, (hS.blk 0 rfl).can (by simp), _, hB2.cell rfl, _, hB2.cell rfl, _, hB2.cell rfl, rfl, hE.frame⟩⟩⟩⟩⟩⟩⟩⟩
  · rintro e w' ⟨v, rfl, rfl, h⟩; exact ⟨rfl, h⟩
end
end JG
end Go.Proofs.Ytddbebhklmaeoaa
/- The five promises, of the small run; Breach. -/
set_option linter.unusedVariables false
set_option linter.unusedSimpArgs false
set_option maxRecDepth 10000
namespace Go.Proofs.Ytddbebhklmaeoaa
open Go Go.Proofs.Ytddbebhklmaeoaa.Vc
namespace JG
open Vc.PG JD
section
variable {w : World} {be bv bt bo : Nat} {st : Int} {al : Bool} {u : PV}
theorem answersR (h : RunS w be bv bt bo st al u) : Calls Try.prog 45 #[.slice (some ⟨bt, 0, none⟩) 1 1, .agg (runC be bv)] w fun e w' => e = .returned (.bool al) ∧ Fr [] w w' := by
  refine Calls.mono (f45.calls (R := fun e w' => e = .bool al ∧ Fr [] w w') ?_) ?_
  · dsimp only [f45.VC]
    have hS := (St.start w).alloc (runC be bv) 67
    change St [] w (World.alloc w (.cells #[.int .i64 0, .slice (some ⟨be, 0, none⟩) 1 1, .slice none 0 0, .slice none 0 0, .slice (some ⟨bv, 0, none⟩) 1 1, .slice none 0 0, .slice none 0 0, .slice none 0 0, .string ⟨#[]⟩, .int .i64 0] 67)) _ at hS
    generalize World.alloc w (.cells #[.int .i64 0, .slice (some ⟨be, 0, none⟩) 1 1, .slice none 0 0, .slice none 0 0, .slice (some ⟨bv, 0, none⟩) 1 1, .slice none 0 0, .slice none 0 0, .slice none 0 0, .string ⟨#[]⟩, .int .i64 0] 67) = w1 at *
    generalize w.heap.size = b1 at *
    replace hS : St [] w w1 [Chunk.blk b1 (runC be bv) 67] := hS
    refine ⟨fun i w' r => i = 1 ∧ St [] w w' [Chunk.blk b1 (runC be bv) 67], ⟨0, rfl, hS⟩, ?_⟩
    clear hS w1
    rintro d i w2 r ⟨rfl, hS⟩
    have hB := hS.blk 0 rfl
    refine ⟨_, _, _, hB.cell rfl, sel_false rfl ⟨_, _, _, hB.cell rfl, fun i w' r => St [] w w' [Chunk.blk b1 (runC be bv) 67] ∧ ((i = 0 ∧ r = 1) ∨ (i = 1 ∧ r = 0 ∧ al = true)), ⟨1, hS, .inl ⟨rfl, rfl⟩⟩, ?_⟩⟩
    clear hS hB w2
    rintro d i w2 r ⟨hS, hc⟩
    rcases hc with ⟨rfl, rfl⟩ | ⟨rfl, rfl, rfl⟩
    · skip
      obtain ⟨_, hV⟩ := (h.fr hS.frame).ev
      have hT := hS.alloc #[.int .i64 0, .int .i64 0, .int .i8 0, .int .i64 0, .int .i64 0, .int .i64 0, .int .i64 0, .int .i64 0, .bool false, .int .i64 0, .bool false, .bool false] 59
      have hS2 := hT.over 0 rfl [.int .i64 0, .int .i64 0, .int .i8 3, .int .i64 0, .int .i64 4, .int .i64 2, .int .i64 st, .int .i64 0, .bool al, .int .i64 7, .bool false, .bool false] rfl
      refine sel_true rfl ⟨by decide, by decide, needPtr_of rfl ⟨_, hV.cell rfl, _, hV.cell rfl, _, hV.cell rfl, _, hV.cell rfl, _, hV.cell rfl, _, hV.cell rfl, _, hV.cell rfl, _, hV.cell rfl, _, hV.cell rfl, _, hV.cell rfl, _, hV.cell rfl, _, hV.cell rfl, (hT.blk 0 rfl).can (by simp), ?_⟩⟩
      generalize World.alloc w2 (.cells #[.int .i64 0, .int .i64 0, .int .i8 0, .int .i64 0, .int .i64 0, .int .i64 0, .int .i64 0, .int .i64 0, .bool false, .int .i64 0, .bool false, .bool false] 59) = w3 at *
      generalize w2.heap.size = b2 at *
      generalize setCs w3 b2 0 [.int .i64 0, .int .i64 0, .int .i8 3, .int .i64 0, .int .i64 4, .int .i64 2, .int .i64 st, .int .i64 0, .bool al, .int .i64 7, .bool false, .bool false] = w4 at *
      replace hS2 : St [] w w4 [Chunk.blk b2 (evC st al) 59, Chunk.blk b1 (runC be bv) 67] := hS2
      have hE := hS2.blk 0 rfl
      have hB := hS2.blk 1 rfl
      refine ⟨_, hE.cell rfl, _, hE.cell rfl, _, hE.cell rfl, _, hE.cell rfl, _, hE.cell rfl, _, hE.cell rfl, _, hE.cell rfl, _, hE.cell rfl, _, hE.cell rfl, _, hE.cell rfl, _, hE.cell rfl, _, hE.cell rfl, Calls.mono (hS2.step0 wellR) ?_⟩
      rintro _ w5 ⟨rfl, hS2⟩
      have hE := hS2.blk 0 rfl
      refine ⟨_, rfl, sel_false rfl ⟨_, hE.cell rfl, _, hE.cell rfl, _, hE.cell rfl, _, hE.cell rfl, _, hE.cell rfl, _, hE.cell rfl, _, hE.cell rfl, _, hE.cell rfl, _, hE.cell rfl, _, hE.cell rfl, _, hE.cell rfl, _, hE.cell rfl, Calls.mono (hS2.step0 writeR) ?_⟩⟩
      rintro _ w6 ⟨rfl, hS2⟩
      have hE := hS2.blk 0 rfl
      refine ⟨_, rfl, sel_false rfl ⟨_, hE.cell rfl, _, hE.cell rfl, _, hE.cell rfl, _, hE.cell rfl, _, hE.cell rfl, _, hE.cell rfl, _, hE.cell rfl, _, hE.cell rfl, _, hE.cell rfl, _, hE.cell rfl, _, hE.cell rfl, _, hE.cell rfl, Calls.mono (hS2.step0 readR') ?_⟩⟩
      rintro _ w7 ⟨rfl, hS2⟩
      have hE := hS2.blk 0 rfl
      have hB := hS2.blk 1 rfl
      refine ⟨_, rfl, sel_false rfl ⟨_, hB.cell rfl, _, _, _, hB.cell rfl, _, _, _, hB.cell rfl, _, _, _, hB.cell rfl, _, _, _, hB.cell rfl, _, _, _, hB.cell rfl, _, _, _, hB.cell rfl, _, _, _, hB.cell rfl, _, hB.cell rfl, _, hB.cell rfl, _, hE.cell rfl, Calls.mono (hS2.step0 (countingR (h.fr hS2.frame))) ?_⟩⟩
      rintro _ w8 ⟨rfl, hS2⟩
      have hE := hS2.blk 0 rfl
      have hB := hS2.blk 1 rfl
      obtain ⟨_, hW⟩ := (h.fr hS2.frame).ver
      refine ⟨_, rfl, _, hE.cell rfl, sel_false rfl (sel_false rfl (needPtr_of rfl ⟨_, hW.cell rfl, _, hE.cell rfl, sel_false rfl ⟨_, hE.cell rfl, sel_true rfl (needPtr_of rfl ⟨_, hE.cell rfl, _, _, _, hW.cell rfl, _, _, _, hW.cell rfl, _, _, _, hW.cell rfl, _, _, _, hW.cell rfl, _, _, _, hW.cell rfl, _, _, _, hW.cell rfl, _, _, _, hW.cell rfl, _, _, _, hW.cell rfl, _, _, _, hW.cell rfl, _, _, _, hW.cell rfl, _, _, _, hW.cell rfl, _, hE.cell rfl, _, hE.cell rfl, _, hE.cell rfl, _, hE.cell rfl, _, hE.cell rfl, _, hE.cell rfl, _, hE.cell rfl, _, hE.cell rfl, _, hE.cell rfl, _, hE.cell rfl, _, hE.cell rfl, _, hE.cell rfl, Calls.mono (hS2.drew.drew.step0 (tripleR (h.fr hS2.drew.drew.frame))) ?_⟩)⟩⟩))⟩
      rintro _ w9 ⟨rfl, hS2⟩
      have hE := hS2.blk 0 rfl
      obtain ⟨_, hW⟩ := (h.fr hS2.frame).ver
      refine ⟨_, _, _, rfl, ?_, ?_⟩
      · repeat' (first | exact trivial | exact hE.cell rfl | exact hW.cell rfl | refine ⟨?_, ?_⟩)
      refine Calls.mono (hS2.step0 (allowsC (h.pol.fr hS2.frame) open_small _ _ _)) ?_
      rintro _ w10 ⟨rfl, hS2⟩
      have hE := hS2.blk 0 rfl
      obtain ⟨_, hW⟩ := (h.fr hS2.frame).ver
      refine ⟨_, rfl, ?_, ?_⟩
      · repeat' (first | exact trivial | exact hE.cell rfl | exact hW.cell rfl | refine ⟨?_, ?_⟩)
      rw [show allowsB geF ltF openP (bA, bO, bX, ()) = true from open_allows]
      cases al with
      | false => exact sel_true rfl ⟨rfl, hS2.frame⟩
      | true => exact sel_false rfl ⟨rfl, 0, by omega, hS2.tail, .inr ⟨rfl, rfl, rfl⟩⟩
    · exact sel_false rfl ⟨rfl, hS.frame⟩
  · rintro e w' ⟨v, rfl, rfl, h⟩; exact ⟨rfl, h⟩
theorem revokedR (h : RunS w be bv bt bo st al u) : Calls Try.prog 47 #[.slice (some ⟨bt, 0, none⟩) 1 1, .agg (runC be bv)] w fun e w' => e = .returned (.bool true) ∧ Fr [] w w' := by
  refine Calls.mono (f47.calls (R := fun e w' => e = .bool true ∧ Fr [] w w') ?_) ?_
  · dsimp only [f47.VC]
    have hS := (St.start w).alloc (runC be bv) 67
    change St [] w (World.alloc w (.cells #[.int .i64 0, .slice (some ⟨be, 0, none⟩) 1 1, .slice none 0 0, .slice none 0 0, .slice (some ⟨bv, 0, none⟩) 1 1, .slice none 0 0, .slice none 0 0, .slice none 0 0, .string ⟨#[]⟩, .int .i64 0] 67)) _ at hS
    generalize World.alloc w (.cells #[.int .i64 0, .slice (some ⟨be, 0, none⟩) 1 1, .slice none 0 0, .slice none 0 0, .slice (some ⟨bv, 0, none⟩) 1 1, .slice none 0 0, .slice none 0 0, .slice none 0 0, .string ⟨#[]⟩, .int .i64 0] 67) = w1 at *
    generalize w.heap.size = b1 at *
    replace hS : St [] w w1 [Chunk.blk b1 (runC be bv) 67] := hS
    have hB := hS.blk 0 rfl
    refine ⟨_, _, _, hB.cell rfl, fun i w' r => St [] w w' [Chunk.blk b1 (runC be bv) 67] ∧ ((i = 0 ∧ r = 1) ∨ (i = 1 ∧ r = 0)), ⟨1, hS, .inl ⟨rfl, rfl⟩⟩, ?_⟩
    clear hS hB w1
    rintro d i w2 r ⟨hS, hc⟩
    rcases hc with ⟨rfl, rfl⟩ | ⟨rfl, rfl⟩
    · skip
      obtain ⟨_, hV⟩ := (h.fr hS.frame).ev
      have hT := hS.alloc #[.int .i64 0, .int .i64 0, .int .i8 0, .int .i64 0, .int .i64 0, .int .i64 0, .int .i64 0, .int .i64 0, .bool false, .int .i64 0, .bool false, .bool false] 59
      have hS2 := hT.over 0 rfl [.int .i64 0, .int .i64 0, .int .i8 3, .int .i64 0, .int .i64 4, .int .i64 2, .int .i64 st, .int .i64 0, .bool al, .int .i64 7, .bool false, .bool false] rfl
      refine sel_true rfl ⟨by decide, by decide, needPtr_of rfl ⟨_, hV.cell rfl, _, hV.cell rfl, _, hV.cell rfl, _, hV.cell rfl, _, hV.cell rfl, _, hV.cell rfl, _, hV.cell rfl, _, hV.cell rfl, _, hV.cell rfl, _, hV.cell rfl, _, hV.cell rfl, _, hV.cell rfl, (hT.blk 0 rfl).can (by simp), ?_⟩⟩
      generalize World.alloc w2 (.cells #[.int .i64 0, .int .i64 0, .int .i8 0, .int .i64 0, .int .i64 0, .int .i64 0, .int .i64 0, .int .i64 0, .bool false, .int .i64 0, .bool false, .bool false] 59) = w3 at *
      generalize w2.heap.size = b2 at *
      generalize setCs w3 b2 0 [.int .i64 0, .int .i64 0, .int .i8 3, .int .i64 0, .int .i64 4, .int .i64 2, .int .i64 st, .int .i64 0, .bool al, .int .i64 7, .bool false, .bool false] = w4 at *
      replace hS2 : St [] w w4 [Chunk.blk b2 (evC st al) 59, Chunk.blk b1 (runC be bv) 67] := hS2
      have hE := hS2.blk 0 rfl
      have hB := hS2.blk 1 rfl
      exact ⟨_, hE.cell rfl, sel_true rfl ⟨rfl, 0, by omega, hS2.tail, .inr ⟨rfl, rfl⟩⟩⟩
    · exact sel_false rfl ⟨rfl, hS.frame⟩
  · rintro e w' ⟨v, rfl, rfl, h⟩; exact ⟨rfl, h⟩
theorem unpoisonedR (h : RunS w be bv bt bo st al u) : Calls Try.prog 49 #[.agg (runC be bv)] w fun e w' => e = .returned (.bool true) ∧ Fr [] w w' := by
  refine Calls.mono (f49.calls (R := fun e w' => e = .bool true ∧ Fr [] w w') ?_) ?_
  · dsimp only [f49.VC]
    have hS := (St.start w).alloc (runC be bv) 67
    change St [] w (World.alloc w (.cells #[.int .i64 0, .slice (some ⟨be, 0, none⟩) 1 1, .slice none 0 0, .slice none 0 0, .slice (some ⟨bv, 0, none⟩) 1 1, .slice none 0 0, .slice none 0 0, .slice none 0 0, .string ⟨#[]⟩, .int .i64 0] 67)) _ at hS
    generalize World.alloc w (.cells #[.int .i64 0, .slice (some ⟨be, 0, none⟩) 1 1, .slice none 0 0, .slice none 0 0, .slice (some ⟨bv, 0, none⟩) 1 1, .slice none 0 0, .slice none 0 0, .slice none 0 0, .string ⟨#[]⟩, .int .i64 0] 67) = w1 at *
    generalize w.heap.size = b1 at *
    replace hS : St [] w w1 [Chunk.blk b1 (runC be bv) 67] := hS
    have hB := hS.blk 0 rfl
    refine ⟨_, _, _, hB.cell rfl, fun i w' r => i = 0 ∧ St [] w w' [Chunk.blk b1 (runC be bv) 67], ⟨0, rfl, hS⟩, ?_⟩
    clear hS hB w1
    rintro d i w2 r ⟨rfl, hS⟩
    have hB := hS.blk 0 rfl
    refine sel_false rfl ⟨_, _, _, hB.cell rfl, fun i w' r => St [] w w' [Chunk.blk b1 (runC be bv) 67] ∧ ((i = 0 ∧ r = 1) ∨ (i = 1 ∧ r = 0)), ⟨1, hS, .inl ⟨rfl, rfl⟩⟩, ?_⟩
    clear hS hB w2
    rintro d i w2 r ⟨hS, hc⟩
    rcases hc with ⟨rfl, rfl⟩ | ⟨rfl, rfl⟩
    · skip
      obtain ⟨_, hV⟩ := (h.fr hS.frame).ev
      have hT := hS.alloc #[.int .i64 0, .int .i64 0, .int .i8 0, .int .i64 0, .int .i64 0, .int .i64 0, .int .i64 0, .int .i64 0, .bool false, .int .i64 0, .bool false, .bool false] 59
      have hS2 := hT.over 0 rfl [.int .i64 0, .int .i64 0, .int .i8 3, .int .i64 0, .int .i64 4, .int .i64 2, .int .i64 st, .int .i64 0, .bool al, .int .i64 7, .bool false, .bool false] rfl
      refine sel_true rfl ⟨by decide, by decide, needPtr_of rfl ⟨_, hV.cell rfl, _, hV.cell rfl, _, hV.cell rfl, _, hV.cell rfl, _, hV.cell rfl, _, hV.cell rfl, _, hV.cell rfl, _, hV.cell rfl, _, hV.cell rfl, _, hV.cell rfl, _, hV.cell rfl, _, hV.cell rfl, (hT.blk 0 rfl).can (by simp), ?_⟩⟩
      generalize World.alloc w2 (.cells #[.int .i64 0, .int .i64 0, .int .i8 0, .int .i64 0, .int .i64 0, .int .i64 0, .int .i64 0, .int .i64 0, .bool false, .int .i64 0, .bool false, .bool false] 59) = w3 at *
      generalize w2.heap.size = b2 at *
      generalize setCs w3 b2 0 [.int .i64 0, .int .i64 0, .int .i8 3, .int .i64 0, .int .i64 4, .int .i64 2, .int .i64 st, .int .i64 0, .bool al, .int .i64 7, .bool false, .bool false] = w4 at *
      replace hS2 : St [] w w4 [Chunk.blk b2 (evC st al) 59, Chunk.blk b1 (runC be bv) 67] := hS2
      have hE := hS2.blk 0 rfl
      have hB := hS2.blk 1 rfl
      refine ⟨_, hE.cell rfl, _, hE.cell rfl, _, hE.cell rfl, _, hE.cell rfl, _, hE.cell rfl, _, hE.cell rfl, _, hE.cell rfl, _, hE.cell rfl, _, hE.cell rfl, _, hE.cell rfl, _, hE.cell rfl, _, hE.cell rfl, Calls.mono (hS2.step0 readR') ?_⟩
      rintro _ w5 ⟨rfl, hS2⟩
      have hE := hS2.blk 0 rfl
      have hB := hS2.blk 1 rfl
      refine ⟨_, rfl, sel_false rfl ⟨_, hE.cell rfl, sel_false rfl ⟨_, hB.cell rfl, _, _, _, hB.cell rfl, _, _, _, hB.cell rfl, _, _, _, hB.cell rfl, _, _, _, hB.cell rfl, _, _, _, hB.cell rfl, _, _, _, hB.cell rfl, _, _, _, hB.cell rfl, _, hB.cell rfl, _, hB.cell rfl, _, hE.cell rfl, Calls.mono (hS2.step0 (countingR (h.fr hS2.frame))) ?_⟩⟩⟩
      rintro _ w8 ⟨rfl, hS2⟩
      obtain ⟨_, hW⟩ := (h.fr hS2.frame).ver
      exact ⟨_, rfl, sel_true rfl (needPtr_of rfl ⟨_, hW.cell rfl, sel_false rfl ⟨rfl, 0, by omega, hS2.drew.tail, .inr ⟨rfl, rfl⟩⟩⟩)⟩
    · exact sel_false rfl ⟨rfl, hS.frame⟩
  · rintro e w' ⟨v, rfl, rfl, h⟩; exact ⟨rfl, h⟩
theorem fewR (h : RunS w be bv bt bo st al u) : Calls Try.prog 51 #[.agg (runC be bv)] w fun e w' => e = .returned (.bool true) ∧ Fr [] w w' := by
  refine Calls.mono (f51.calls (R := fun e w' => e = .bool true ∧ Fr [] w w') ?_) ?_
  · dsimp only [f51.VC]
    have hS := (St.start w).alloc (runC be bv) 67
    change St [] w (World.alloc w (.cells #[.int .i64 0, .slice (some ⟨be, 0, none⟩) 1 1, .slice none 0 0, .slice none 0 0, .slice (some ⟨bv, 0, none⟩) 1 1, .slice none 0 0, .slice none 0 0, .slice none 0 0, .string ⟨#[]⟩, .int .i64 0] 67)) _ at hS
    generalize World.alloc w (.cells #[.int .i64 0, .slice (some ⟨be, 0, none⟩) 1 1, .slice none 0 0, .slice none 0 0, .slice (some ⟨bv, 0, none⟩) 1 1, .slice none 0 0, .slice none 0 0, .slice none 0 0, .string ⟨#[]⟩, .int .i64 0] 67) = w1 at *
    generalize w.heap.size = b1 at *
    replace hS : St [] w w1 [Chunk.blk b1 (runC be bv) 67] := hS
    have hB := hS.blk 0 rfl
    refine ⟨_, _, _, hB.cell rfl, fun i w' r => i = 0 ∧ St [] w w' [Chunk.blk b1 (runC be bv) 67], ⟨0, rfl, hS⟩, ?_⟩
    clear hS hB w1
    rintro d i w2 r ⟨rfl, hS⟩
    have hB := hS.blk 0 rfl
    refine sel_false rfl ⟨_, _, _, hB.cell rfl, fun i w' r => St [] w w' [Chunk.blk b1 (runC be bv) 67] ∧ ((i = 0 ∧ r = 1) ∨ (i = 1 ∧ r = 0)), ⟨1, hS, .inl ⟨rfl, rfl⟩⟩, ?_⟩
    clear hS hB w2
    rintro d i w2 r ⟨hS, hc⟩
    rcases hc with ⟨rfl, rfl⟩ | ⟨rfl, rfl⟩
    · skip
      obtain ⟨_, hV⟩ := (h.fr hS.frame).ev
      have hT := hS.alloc #[.int .i64 0, .int .i64 0, .int .i8 0, .int .i64 0, .int .i64 0, .int .i64 0, .int .i64 0, .int .i64 0, .bool false, .int .i64 0, .bool false, .bool false] 59
      have hS2 := hT.over 0 rfl [.int .i64 0, .int .i64 0, .int .i8 3, .int .i64 0, .int .i64 4, .int .i64 2, .int .i64 st, .int .i64 0, .bool al, .int .i64 7, .bool false, .bool false] rfl
      refine sel_true rfl ⟨by decide, by decide, needPtr_of rfl ⟨_, hV.cell rfl, _, hV.cell rfl, _, hV.cell rfl, _, hV.cell rfl, _, hV.cell rfl, _, hV.cell rfl, _, hV.cell rfl, _, hV.cell rfl, _, hV.cell rfl, _, hV.cell rfl, _, hV.cell rfl, _, hV.cell rfl, (hT.blk 0 rfl).can (by simp), ?_⟩⟩
      generalize World.alloc w2 (.cells #[.int .i64 0, .int .i64 0, .int .i8 0, .int .i64 0, .int .i64 0, .int .i64 0, .int .i64 0, .int .i64 0, .bool false, .int .i64 0, .bool false, .bool false] 59) = w3 at *
      generalize w2.heap.size = b2 at *
      generalize setCs w3 b2 0 [.int .i64 0, .int .i64 0, .int .i8 3, .int .i64 0, .int .i64 4, .int .i64 2, .int .i64 st, .int .i64 0, .bool al, .int .i64 7, .bool false, .bool false] = w4 at *
      replace hS2 : St [] w w4 [Chunk.blk b2 (evC st al) 59, Chunk.blk b1 (runC be bv) 67] := hS2
      have hE := hS2.blk 0 rfl
      have hB := hS2.blk 1 rfl
      refine ⟨_, hE.cell rfl, _, hE.cell rfl, _, hE.cell rfl, _, hE.cell rfl, _, hE.cell rfl, _, hE.cell rfl, _, hE.cell rfl, _, hE.cell rfl, _, hE.cell rfl, _, hE.cell rfl, _, hE.cell rfl, _, hE.cell rfl, Calls.mono (hS2.step0 writeR) ?_⟩
      rintro _ w5 ⟨rfl, hS2⟩
      exact ⟨_, rfl, sel_true rfl ⟨rfl, 0, by omega, hS2.tail, .inr ⟨rfl, rfl⟩⟩⟩
    · exact sel_false rfl ⟨rfl, hS.frame⟩
  · rintro e w' ⟨v, rfl, rfl, h⟩; exact ⟨rfl, h⟩
theorem quickR (h : RunS w be bv bt bo st al u) (hst : st ≤ 11) : Calls Try.prog 53 #[.agg (runC be bv)] w fun e w' => e = .returned (.bool true) ∧ Fr [] w w' := by
  refine Calls.mono (f53.calls (R := fun e w' => e = .bool true ∧ Fr [] w w') ?_) ?_
  · dsimp only [f53.VC]
    have hS := (St.start w).alloc (runC be bv) 67
    change St [] w (World.alloc w (.cells #[.int .i64 0, .slice (some ⟨be, 0, none⟩) 1 1, .slice none 0 0, .slice none 0 0, .slice (some ⟨bv, 0, none⟩) 1 1, .slice none 0 0, .slice none 0 0, .slice none 0 0, .string ⟨#[]⟩, .int .i64 0] 67)) _ at hS
    generalize World.alloc w (.cells #[.int .i64 0, .slice (some ⟨be, 0, none⟩) 1 1, .slice none 0 0, .slice none 0 0, .slice (some ⟨bv, 0, none⟩) 1 1, .slice none 0 0, .slice none 0 0, .slice none 0 0, .string ⟨#[]⟩, .int .i64 0] 67) = w1 at *
    generalize w.heap.size = b1 at *
    replace hS : St [] w w1 [Chunk.blk b1 (runC be bv) 67] := hS
    have hB := hS.blk 0 rfl
    refine ⟨_, _, _, hB.cell rfl, fun x i w' r => St [] w w' [Chunk.blk b1 (runC be bv) 67] ∧ x = 0 ∧ ((i = 0 ∧ r = 1) ∨ (i = 1 ∧ r = 0)), ⟨1, hS, rfl, .inl ⟨rfl, rfl⟩⟩, ?_⟩
    clear hS hB w1
    rintro d x i w2 r ⟨hS, rfl, hc⟩
    rcases hc with ⟨rfl, rfl⟩ | ⟨rfl, rfl⟩
    · obtain ⟨_, hV⟩ := (h.fr hS.frame).ver
      have hT := hS.alloc #[.int .i64 0, .int .i64 0, .int .i64 0, .int .i64 0, .int .i64 0, .slice none 0 0, .slice none 0 0, .slice none 0 0, .slice none 0 0, .slice none 0 0, .slice none 0 0, .slice none 0 0, .slice none 0 0, .slice none 0 0, .slice none 0 0, .slice none 0 0] 62
      have hS2 := hT.over 0 rfl [.int .i64 7, .int .i64 0, .int .i64 0, .int .i64 (-1), .int .i64 (-1), .slice u.a.1 u.a.2.1 u.a.2.2, .slice u.s.1 u.s.2.1 u.s.2.2, .slice u.r.1 u.r.2.1 u.r.2.2, .slice u.o.1 u.o.2.1 u.o.2.2, .slice u.g.1 u.g.2.1 u.g.2.2, .slice u.m.1 u.m.2.1 u.m.2.2, .slice u.i.1 u.i.2.1 u.i.2.2, .slice u.q.1 u.q.2.1 u.q.2.2, .slice u.t.1 u.t.2.1 u.t.2.2, .slice u.u.1 u.u.2.1 u.u.2.2, .slice u.e.1 u.e.2.1 u.e.2.2] rfl
      refine sel_true rfl ⟨by decide, by decide, needPtr_of rfl ⟨_, hV.cell rfl, _, hV.cell rfl, _, hV.cell rfl, _, hV.cell rfl, _, hV.cell rfl, _, _, _, hV.cell rfl, _, _, _, hV.cell rfl, _, _, _, hV.cell rfl, _, _, _, hV.cell rfl, _, _, _, hV.cell rfl, _, _, _, hV.cell rfl, _, _, _, hV.cell rfl, _, _, _, hV.cell rfl, _, _, _, hV.cell rfl, _, _, _, hV.cell rfl, _, _, _, hV.cell rfl, (hT.blk 0 rfl).can (by simp), ?_⟩⟩
      exact ⟨_, (hS2.blk 0 rfl).cell rfl, _, _, run_max _ _ _, rfl, 0, by omega, hS2.tail, rfl, .inr ⟨rfl, rfl⟩⟩
    have hB := hS.blk 0 rfl
    refine sel_false rfl ⟨_, _, _, hB.cell rfl, fun x i w' r => St [] w w' [Chunk.blk b1 (runC be bv) 67] ∧ x = 0 ∧ i = 0, ⟨0, hS, rfl, rfl⟩, ?_⟩
    clear hS hB w2
    rintro d x i w2 r ⟨hS, rfl, rfl⟩
    refine sel_false rfl (Calls.mono (hS.step0 stepsR) ?_)
    rintro _ w3 ⟨rfl, hS⟩
    have hB := hS.blk 0 rfl
    refine ⟨_, rfl, _, _, _, hB.cell rfl, fun i w' r => St [] w w' [Chunk.blk b1 (runC be bv) 67] ∧ ((i = 0 ∧ r = 1) ∨ (i = 1 ∧ r = 0)), ⟨1, hS, .inl ⟨rfl, rfl⟩⟩, ?_⟩
    clear hB
    rintro d i w2 r ⟨hS, hc⟩
    rcases hc with ⟨rfl, rfl⟩ | ⟨rfl, rfl⟩
    · skip
      obtain ⟨_, hV⟩ := (h.fr hS.frame).ev
      have hT := hS.alloc #[.int .i64 0, .int .i64 0, .int .i8 0, .int .i64 0, .int .i64 0, .int .i64 0, .int .i64 0, .int .i64 0, .bool false, .int .i64 0, .bool false, .bool false] 59
      have hS2 := hT.over 0 rfl [.int .i64 0, .int .i64 0, .int .i8 3, .int .i64 0, .int .i64 4, .int .i64 2, .int .i64 st, .int .i64 0, .bool al, .int .i64 7, .bool false, .bool false] rfl
      refine sel_true rfl ⟨by decide, by decide, needPtr_of rfl ⟨_, hV.cell rfl, _, hV.cell rfl, _, hV.cell rfl, _, hV.cell rfl, _, hV.cell rfl, _, hV.cell rfl, _, hV.cell rfl, _, hV.cell rfl, _, hV.cell rfl, _, hV.cell rfl, _, hV.cell rfl, _, hV.cell rfl, (hT.blk 0 rfl).can (by simp), ?_⟩⟩
      generalize World.alloc w2 (.cells #[.int .i64 0, .int .i64 0, .int .i8 0, .int .i64 0, .int .i64 0, .int .i64 0, .int .i64 0, .int .i64 0, .bool false, .int .i64 0, .bool false, .bool false] 59) = w3 at *
      generalize w2.heap.size = b2 at *
      generalize setCs w3 b2 0 [.int .i64 0, .int .i64 0, .int .i8 3, .int .i64 0, .int .i64 4, .int .i64 2, .int .i64 st, .int .i64 0, .bool al, .int .i64 7, .bool false, .bool false] = w4 at *
      replace hS2 : St [] w w4 [Chunk.blk b2 (evC st al) 59, Chunk.blk b1 (runC be bv) 67] := hS2
      have hE := hS2.blk 0 rfl
      have hB := hS2.blk 1 rfl
      refine ⟨_, hE.cell rfl, _, hE.cell rfl, _, hE.cell rfl, _, hE.cell rfl, _, hE.cell rfl, _, hE.cell rfl, _, hE.cell rfl, _, hE.cell rfl, _, hE.cell rfl, _, hE.cell rfl, _, hE.cell rfl, _, hE.cell rfl, Calls.mono (hS2.step0 readR') ?_⟩
      rintro _ w5 ⟨rfl, hS2⟩
      have hE := hS2.blk 0 rfl
      exact ⟨_, rfl, sel_true rfl ⟨_, hE.cell rfl, sel_false (decide_eq_false (by omega)) ⟨_, hE.cell rfl, sel_false rfl ⟨rfl, 0, by omega, hS2.tail, .inr ⟨rfl, rfl⟩⟩⟩⟩⟩
    · exact sel_false rfl ⟨rfl, hS.frame⟩
  · rintro e w' ⟨v, rfl, rfl, h⟩; exact ⟨rfl, h⟩
theorem q_answers {c0 c1 : Nat} {T0 T1 : TypeId} (h : RunS w be bv bt bo st al u) (h0 : Blk w c0 #[.slice (some ⟨bt, 0, none⟩) 1 1] T0) (hB : Blk w c1 (runC be bv) T1) : Calls Try.prog 44 #[.pointer (some ⟨c0, 0, none⟩), .pointer (some ⟨c1, 0, none⟩)] w fun e w' => e = .returned (.bool al) ∧ Fr [] w w' := by
  refine Calls.mono (f44.calls (R := fun e w' => e = .bool al ∧ Fr [] w w') ?_) ?_
  · dsimp only [f44.VC]
    refine ⟨_, _, _, h0.cell rfl, _, hB.cell rfl, _, _, _, hB.cell rfl, _, _, _, hB.cell rfl, _, _, _, hB.cell rfl, _, _, _, hB.cell rfl, _, _, _, hB.cell rfl, _, _, _, hB.cell rfl, _, _, _, hB.cell rfl, _, hB.cell rfl, _, hB.cell rfl, Calls.mono (answersR h) ?_⟩
    rintro _ w' ⟨rfl, hf⟩
    exact ⟨_, rfl, rfl, hf⟩
  · rintro e w' ⟨v, rfl, rfl, h⟩; exact ⟨rfl, h⟩
theorem q_revoked {c0 c1 : Nat} {T0 T1 : TypeId} (h : RunS w be bv bt bo st al u) (h0 : Blk w c0 #[.slice (some ⟨bt, 0, none⟩) 1 1] T0) (hB : Blk w c1 (runC be bv) T1) : Calls Try.prog 46 #[.pointer (some ⟨c0, 0, none⟩), .pointer (some ⟨c1, 0, none⟩)] w fun e w' => e = .returned (.bool true) ∧ Fr [] w w' := by
  refine Calls.mono (f46.calls (R := fun e w' => e = .bool true ∧ Fr [] w w') ?_) ?_
  · dsimp only [f46.VC]
    refine ⟨_, _, _, h0.cell rfl, _, hB.cell rfl, _, _, _, hB.cell rfl, _, _, _, hB.cell rfl, _, _, _, hB.cell rfl, _, _, _, hB.cell rfl, _, _, _, hB.cell rfl, _, _, _, hB.cell rfl, _, _, _, hB.cell rfl, _, hB.cell rfl, _, hB.cell rfl, Calls.mono (revokedR h) ?_⟩
    rintro _ w' ⟨rfl, hf⟩
    exact ⟨_, rfl, rfl, hf⟩
  · rintro e w' ⟨v, rfl, rfl, h⟩; exact ⟨rfl, h⟩
theorem q_unpoisoned {c1 : Nat} {T1 : TypeId} (h : RunS w be bv bt bo st al u) (hB : Blk w c1 (runC be bv) T1) : Calls Try.prog 48 #[.pointer (some ⟨c1, 0, none⟩)] w fun e w' => e = .returned (.bool true) ∧ Fr [] w w' := by
  refine Calls.mono (f48.calls (R := fun e w' => e = .bool true ∧ Fr [] w w') ?_) ?_
  · dsimp only [f48.VC]
    refine ⟨_, hB.cell rfl, _, _, _, hB.cell rfl, _, _, _, hB.cell rfl, _, _, _, hB.cell rfl, _, _, _, hB.cell rfl, _, _, _, hB.cell rfl, _, _, _, hB.cell rfl, _, _, _, hB.cell rfl, _, hB.cell rfl, _, hB.cell rfl, Calls.mono (unpoisonedR h) ?_⟩
    rintro _ w' ⟨rfl, hf⟩
    exact ⟨_, rfl, rfl, hf⟩
  · rintro e w' ⟨v, rfl, rfl, h⟩; exact ⟨rfl, h⟩
theorem q_few {c1 : Nat} {T1 : TypeId} (h : RunS w be bv bt bo st al u) (hB : Blk w c1 (runC be bv) T1) : Calls Try.prog 50 #[.pointer (some ⟨c1, 0, none⟩)] w fun e w' => e = .returned (.bool true) ∧ Fr [] w w' := by
  refine Calls.mono (f50.calls (R := fun e w' => e = .bool true ∧ Fr [] w w') ?_) ?_
  · dsimp only [f50.VC]
    refine ⟨_, hB.cell rfl, _, _, _, hB.cell rfl, _, _, _, hB.cell rfl, _, _, _, hB.cell rfl, _, _, _, hB.cell rfl, _, _, _, hB.cell rfl, _, _, _, hB.cell rfl, _, _, _, hB.cell rfl, _, hB.cell rfl, _, hB.cell rfl, Calls.mono (fewR h) ?_⟩
    rintro _ w' ⟨rfl, hf⟩
    exact ⟨_, rfl, rfl, hf⟩
  · rintro e w' ⟨v, rfl, rfl, h⟩; exact ⟨rfl, h⟩
theorem q_quick {c1 : Nat} {T1 : TypeId} (h : RunS w be bv bt bo st al u) (hst : st ≤ 11) (hB : Blk w c1 (runC be bv) T1) : Calls Try.prog 52 #[.pointer (some ⟨c1, 0, none⟩)] w fun e w' => e = .returned (.bool true) ∧ Fr [] w w' := by
  refine Calls.mono (f52.calls (R := fun e w' => e = .bool true ∧ Fr [] w w') ?_) ?_
  · dsimp only [f52.VC]
    refine ⟨_, hB.cell rfl, _, _, _, hB.cell rfl, _, _, _, hB.cell rfl, _, _, _, hB.cell rfl, _, _, _, hB.cell rfl, _, _, _, hB.cell rfl, _, _, _, hB.cell rfl, _, _, _, hB.cell rfl, _, hB.cell rfl, _, hB.cell rfl, Calls.mono (quickR h hst) ?_⟩
    rintro _ w' ⟨rfl, hf⟩
    exact ⟨_, rfl, rfl, hf⟩
  · rintro e w' ⟨v, rfl, rfl, h⟩; exact ⟨rfl, h⟩
/-- The questions, one by one. -/
def askF (k : Nat) : FuncId := 44 + 2 * k
def askC (c0 c1 k : Nat) : Array Value := if k < 2 then #[.pointer (some ⟨c0, 0, none⟩), .pointer (some ⟨c1, 0, none⟩)] else #[.pointer (some ⟨c1, 0, none⟩)]
theorem ask_at (c0 c1 : Nat) : ∀ k : Nat, k < 5 → ∀ w', (Instr.index 115 (.agg #[.int .i8 1, .func (.func 44) #[] #[.pointer (some ⟨c0, 0, none⟩), .pointer (some ⟨c1, 0, none⟩)], .int .i8 2, .func (.func 46) #[] #[.pointer (some ⟨c0, 0, none⟩), .pointer (some ⟨c1, 0, none⟩)], .int .i8 3, .func (.func 48) #[] #[.pointer (some ⟨c1, 0, none⟩)], .int .i8 4, .func (.func 50) #[] #[.pointer (some ⟨c1, 0, none⟩)], .int .i8 5, .func (.func 52) #[] #[.pointer (some ⟨c1, 0, none⟩)]]) (.int .i64 (k : Int))).run Try.prog w' = .ok (.agg #[.int .i8 ((k : Int) + 1), .func (.func (askF k)) #[] (askC c0 c1 k)]) w'
  | 0, _, w' => by kernel_rfl
  | 1, _, w' => by kernel_rfl
  | 2, _, w' => by kernel_rfl
  | 3, _, w' => by kernel_rfl
  | 4, _, w' => by kernel_rfl
theorem ask_ok {c0 c1 : Nat} {T0 T1 : TypeId} (h : RunS w be bv bt bo st al u) (hst : st ≤ 11) (h0 : Blk w c0 #[.slice (some ⟨bt, 0, none⟩) 1 1] T0) (hB : Blk w c1 (runC be bv) T1) : ∀ k : Nat, k < 5 → callT Try.prog (.func (.func (askF k)) #[] (askC c0 c1 k)) #[] w fun e w' => e = .returned (.bool (if k = 0 then al else true)) ∧ Fr [] w w'
  | 0, _ => callT_of (by kernel_rfl) (q_answers h h0 hB)
  | 1, _ => callT_of (by kernel_rfl) (q_revoked h h0 hB)
  | 2, _ => callT_of (by kernel_rfl) (q_unpoisoned h hB)
  | 3, _ => callT_of (by kernel_rfl) (q_few h hB)
  | 4, _ => callT_of (by kernel_rfl) (q_quick h hst hB)
theorem breachR (h : RunS w be bv bt bo st al u) (hst : st ≤ 11) : Calls Try.prog 25 #[.slice (some ⟨bt, 0, none⟩) 1 1, .agg (runC be bv)] w fun e w' => e = .returned (.int .i8 (if al = true then 0 else 1)) ∧ Fr [] w w' := by
  refine Calls.mono (f25.calls (R := fun e w' => e = .int .i8 (if al = true then 0 else 1) ∧ Fr [] w w') ?_) ?_
  · dsimp only [f25.VC]
    have hS := ((St.start w).alloc #[.slice (some ⟨bt, 0, none⟩) 1 1] 72).alloc (runC be bv) 67
    generalize World.alloc w (.cells #[.slice (some ⟨bt, 0, none⟩) 1 1] 72) = w1 at *
    generalize w.heap.size = c0 at *
    change St [] w (World.alloc w1 (.cells #[.int .i64 0, .slice (some ⟨be, 0, none⟩) 1 1, .slice none 0 0, .slice none 0 0, .slice (some ⟨bv, 0, none⟩) 1 1, .slice none 0 0, .slice none 0 0, .slice none 0 0, .string ⟨#[]⟩, .int .i64 0] 67)) _ at hS
    generalize World.alloc w1 (.cells #[.int .i64 0, .slice (some ⟨be, 0, none⟩) 1 1, .slice none 0 0, .slice none 0 0, .slice (some ⟨bv, 0, none⟩) 1 1, .slice none 0 0, .slice none 0 0, .slice none 0 0, .string ⟨#[]⟩, .int .i64 0] 67) = w2 at *
    generalize w1.heap.size = c1 at *
    replace hS : St [] w w2 [Chunk.blk c1 (runC be bv) 67, Chunk.blk c0 #[.slice (some ⟨bt, 0, none⟩) 1 1] 72] := hS
    refine ⟨fun i w' r => ∃ k : Nat, i = (k : Int) ∧ k + r = 5 ∧ (0 < k → al = true) ∧ St [] w w' [Chunk.blk c1 (runC be bv) 67, Chunk.blk c0 #[.slice (some ⟨bt, 0, none⟩) 1 1] 72], ⟨5, 0, rfl, rfl, fun h => absurd h (by decide), hS⟩, ?_⟩
    clear hS w1 w2
    rintro d i w3 r ⟨k, rfl, hk, hal, hS⟩
    refine sel_of (fun hd => ?_) (fun hd => ?_)
    · have hi : k < 5 := by have := of_decide_eq_true hd; omega
      have hS4 := hS.alloc #[.int .i8 0, .nilFunc] 113
      have hS5 := hS4.over 0 rfl [.int .i8 ((k : Int) + 1), .func (.func (askF k)) #[] (askC c0 c1 k)] rfl
      refine ⟨_, _, _, _, ask_at c0 c1 k hi, (hS4.blk 0 rfl).can (by simp), ?_⟩
      generalize World.alloc w3 (.cells #[.int .i8 0, .nilFunc] 113) = w4 at *
      generalize w3.heap.size = b4 at *
      generalize setCs w4 b4 0 [.int .i8 ((k : Int) + 1), .func (.func (askF k)) #[] (askC c0 c1 k)] = w5 at *
      replace hS5 : St [] w w5 [Chunk.blk b4 #[.int .i8 ((k : Int) + 1), .func (.func (askF k)) #[] (askC c0 c1 k)] 113, Chunk.blk c1 (runC be bv) 67, Chunk.blk c0 #[.slice (some ⟨bt, 0, none⟩) 1 1] 72] := hS5
      rw [inc k 100 (by omega) (by omega)]
      refine ⟨_, _, _, (hS5.blk 0 rfl).cell rfl, callT_mono (ask_ok (h.fr hS5.frame) hst (hS5.blk 2 rfl) (hS5.blk 1 rfl) k hi) ?_⟩
      rintro _ w6 ⟨rfl, hf⟩
      have hS6 := hS5.go hf
      refine ⟨_, rfl, sel_of (fun hb => ⟨_, (hS6.blk 0 rfl).cell rfl, ?_, hS6.frame⟩) (fun hb => ⟨rfl, r - 1, by omega, k + 1, rfl, by omega, fun _ => ?_, hS6.tail⟩)⟩
      · by_cases h0 : k = 0
        · rw [if_pos h0] at hb
          rw [if_neg (by intro ha; rw [ha] at hb; cases hb), h0]; rfl
        · rw [if_neg h0] at hb; cases hb
      · by_cases h0 : k = 0
        · rw [if_pos h0] at hb; simpa using hb
        · exact hal (by omega)
    · have hi : k = 5 := by have := of_decide_eq_false hd; omega
      exact ⟨by rw [if_pos (hal (by omega))], hS.frame⟩
  · rintro e w' ⟨v, rfl, rfl, h⟩; exact ⟨rfl, h⟩
end
end JG
end Go.Proofs.Ytddbebhklmaeoaa
/- JudgeWrong: the plain law. -/
set_option linter.unusedVariables false
set_option linter.unusedSimpArgs false
set_option maxRecDepth 10000
namespace Go.Proofs.Ytddbebhklmaeoaa
open Go Go.Proofs.Ytddbebhklmaeoaa.Vc
namespace JG
open Vc.PG JD
abbrev noP : PolD := ([], [], [], [], [], [], [], [], [], [], [], ())
section
variable {p : PolD} {base : List CalD} {t : TriD} {yes : Bool}
end
end JG
end Go.Proofs.Ytddbebhklmaeoaa
/- The plain statements of some functions, printed by vcgen.py. -/
set_option maxRecDepth 100000
set_option maxHeartbeats 4000000
set_option linter.unusedVariables false
namespace Go.Proofs.Ytddbebhklmaeoaa
open Go Go.Proofs.Ytddbebhklmaeoaa.Vc
end Go.Proofs.Ytddbebhklmaeoaa
/- JudgeFollows: the walk. -/
set_option linter.unusedVariables false
set_option linter.unusedSimpArgs false
set_option maxRecDepth 10000
namespace Go.Proofs.Ytddbebhklmaeoaa
open Go Go.Proofs.Ytddbebhklmaeoaa.Vc
namespace JG
open Vc.PG JD
/-- What awake comes to. -/
def Awakes : Prop := ∀ w : World, Calls Try.prog 7 #[] w fun e w' => e = .returned (.bool true) ∧ Fr [] w w'
end JG
end Go.Proofs.Ytddbebhklmaeoaa
/- The plain statements of some functions, printed by vcgen.py. -/
set_option maxRecDepth 100000
set_option maxHeartbeats 4000000
set_option linter.unusedVariables false
namespace Go.Proofs.Ytddbebhklmaeoaa
open Go Go.Proofs.Ytddbebhklmaeoaa.Vc
end Go.Proofs.Ytddbebhklmaeoaa
/- JudgeWrong: the walk. -/
set_option linter.unusedVariables false
set_option linter.unusedSimpArgs false
set_option maxRecDepth 10000
namespace Go.Proofs.Ytddbebhklmaeoaa
open Go Go.Proofs.Ytddbebhklmaeoaa.Vc
namespace JG
open Vc.PG JD
abbrev nilPV : PV := ⟨nilS, nilS, nilS, nilS, nilS, nilS, nilS, nilS, nilS, nilS, nilS⟩
theorem nil_pol {w : World} : InP w nilPV noP := ⟨RdL.nil _ _, RdL.nil _ _, RdL.nil _ _, RdL.nil _ _, RdL.nil _ _, RdL.nil _ _, RdL.nil _ _, RdL.nil _ _, RdL.nil _ _, RdL.nil _ _, RdL.nil _ _⟩
theorem CRows.fr {w w' : World} {rows : List (List Value)} {l : List CalD} (h : CRows w rows l) (hf : Fr [] w w') : CRows w' rows l := ⟨h.1, fun q hq => (h.2 q hq).fr hf⟩
end JG
end Go.Proofs.Ytddbebhklmaeoaa
