/- Page: a graph in memory of its own (twin). The forks' part is printed by gen32.py. -/
import Derived.Test.YtjmlfknogjaemaaM28
import Derived.Test.YtjmlfknogjaemaaM4
import Derived.Test.YtjmlfknogjaemaaProg
import Derived.KernelRfl
import Derived.Test.YtjmlfknogjaemaaM21
set_option linter.unusedVariables false
set_option linter.unusedSimpArgs false
set_option maxRecDepth 10000
namespace Go.Proofs.Ytjmlfknogjaemaa
open Go Go.Proofs.Ytjmlfknogjaemaa.Vc
namespace PG
open Vc.PG NI
theorem texts40 {S : List Nat} {w0 w : World} {L : List Chunk} (h : St S w0 w L) {A : Option Addr} {n c : Nat} {l : List ByteArray} (hW : InX w A n l) (hn : n ≤ 3000000) :
    Calls Try.prog 40 #[.slice A n c] w fun e w' => ∃ X : Sl, e = .returned X.v ∧ St S w0 w' (txs X.v l :: L) := by
  refine Calls.mono (f40.calls (R := fun v w' => ∃ X : Sl, v = X.v ∧ St S w0 w' (txs X.v l :: L)) ?_) ?_
  · dsimp only [f40.VC]
    have hl := hW.1
    obtain ⟨ti, i1, i2, i3, i4⟩ := info9
    obtain ⟨A1, n1, c1, w1, r1, hS1⟩ := St.appMany (ty := 25) ByteArray.empty (enc := encS) (fun _ => rfl) under25 i1 i2 i3 rfl (by omega) (h.nil 9 1) 0 (l := []) rfl hW.1 hW.2 (c2 := c) (by simp; omega)
    exact ⟨A1, n1, c1, w1, r1, (A1, n1, c1), rfl, hS1⟩
  · rintro e w' ⟨v, rfl, X, rfl, h⟩; exact ⟨X, rfl, h⟩
theorem copied0 {S : List Nat} {w0 w : World} {L : List Chunk} (h : St S w0 w L) {A : Option Addr} {n c : Nat} {W : List Int} (hW : InW w A n W) (hn : n ≤ 3000000) :
    Calls Try.prog 24 #[.slice A n c, .int .i64 0] w fun e w' => ∃ X : Sl, e = .returned X.v ∧ St S w0 w' (ints X.v W :: L) := by
  refine Calls.mono (copiedC (k := 0) h hW hn (by decide)) ?_
  rintro e w' ⟨X, rfl, hS⟩
  exact ⟨X, rfl, by simpa [marksL] using hS⟩
abbrev twK (b3 br : Nat) (vals : List Sl) (M : List (List Int)) (X0 X1 X2 X3 X4 VM : Sl) (g : Gd) : List Chunk :=
  [Chunk.keep (InRs vals M), Chunk.ls encL 82 VM.v vals, bgC b3 X0 X1 X2 X3 X4 VM, txs X0.v (gA g), txs X1.v (gS g), txs X2.v (gO g), ints X3.v (gF g), ints X4.v (gN g), b0C br]
theorem tw_fin {S : List Nat} {w0 w : World} {vals : List Sl} {X0 X1 X2 X3 X4 VM : Sl} {g : Gd} {B1 B2 : Chunk} (hu : ∀ r ∈ gM g, ∀ x ∈ r, 0 ≤ x ∧ x < 65536)
    (hS : St S w0 w [Chunk.keep (InRs vals (gM g)), Chunk.ls encL 82 VM.v vals, B1, txs X0.v (gA g), txs X1.v (gS g), txs X2.v (gO g), ints X3.v (gF g), ints X4.v (gN g), B2]) : St S w0 w [gC ⟨X0, X1, X2, X3, X4, VM⟩ g] := by
  have h1 := hS.sel [0, 1, 3, 4, 5, 6, 7] (by decide) [Chunk.keep (InRs vals (gM g)), Chunk.ls encL 82 VM.v vals, txs X0.v (gA g), txs X1.v (gS g), txs X2.v (gO g), ints X3.v (gF g), ints X4.v (gN g)] rfl
  refine h1.join.join.join.join.join.join.keep 0 rfl _ ?_
  rintro F w ⟨_, _, rfl, ⟨_, _, rfl, ⟨_, _, rfl, ⟨_, _, rfl, ⟨_, _, rfl, ⟨_, _, rfl, k1, k2, _⟩, k3, _⟩, k4, _⟩, k5, _⟩, k6, _⟩, k7, _⟩
  have e1 := Chunk.keep_says k1
  have e3 := Chunk.ls_says ByteArray.empty k3
  have e4 := Chunk.ls_says ByteArray.empty k4
  have e5 := Chunk.ls_says ByteArray.empty k5
  have e6 := Chunk.ls_says 0 k6
  have e7 := Chunk.ls_says 0 k7
  have em := rs_inM e1 k2
  exact ⟨⟨⟨e3.1, e3.2.2⟩, e3.2.1⟩, ⟨⟨e4.1, e4.2.2⟩, e4.2.1⟩, ⟨⟨e5.1, e5.2.2⟩, e5.2.1⟩, ⟨⟨e6.1, e6.2.2⟩, e6.2.1⟩, ⟨⟨e7.1, e7.2.2⟩, e7.2.1⟩, em, hu⟩
theorem twinC {S : List Nat} {w0 w : World} {K : List Chunk} (h : St S w0 w K) {v : GV} {g : Gd} (hG0 : InG w v g) (hb : (v.a.2.1 ≤ 1100000 ∧ v.s.2.1 ≤ 1100000 ∧ v.o.2.1 ≤ 1100000 ∧ v.f.2.1 ≤ 1100000 ∧ v.n.2.1 ≤ 1100000 ∧ v.m.2.1 ≤ 1100000) ∧ ∀ r ∈ gM g, r.length ≤ 1100000) :
    Calls Try.prog 15 #[v.v] w fun e w' => ∃ u : GV, e = .returned u.v ∧ St S w0 w' (gC u g :: K) := by
  refine Calls.mono (f15.calls (R := fun r w' => ∃ u : GV, r = u.v ∧ St S w0 w' (gC u g :: K)) ?_) ?_
  · dsimp only [f15.VC]
    have h1 := h.go ((Fr.refl [] w).alloc (cs := v.cells) (T := 29))
    have hG := hG0.fr ((Fr.refl [] w).alloc (cs := v.cells) (T := 29))
    have hB : Blk (World.alloc w (.cells v.cells 29)) w.heap.size v.cells 29 := Blk.new
    generalize w.heap.size = bg at *
    generalize World.alloc w (.cells v.cells 29) = w1 at *
    have hS := (St.start w1).alloc #[.slice none 0 0, .slice none 0 0, .slice none 0 0, .slice none 0 0, .slice none 0 0, .slice none 0 0] 29
    generalize w1.heap.size = br at *
    generalize World.alloc w1 (.cells #[.slice none 0 0, .slice none 0 0, .slice none 0 0, .slice none 0 0, .slice none 0 0, .slice none 0 0] 29) = w2 at *
    obtain ⟨⟨q1, q2, q3, q4, q5, q6⟩, q7⟩ := hb
    have e0 : w1.cell? ⟨bg, 0, none⟩ = some v.a.v := hB.cell rfl
    have e1 : w1.cell? ⟨bg, 1, none⟩ = some v.s.v := hB.cell rfl
    have e2 : w1.cell? ⟨bg, 2, none⟩ = some v.o.v := hB.cell rfl
    have e3 : w1.cell? ⟨bg, 3, none⟩ = some v.f.v := hB.cell rfl
    have e4 : w1.cell? ⟨bg, 4, none⟩ = some v.n.v := hB.cell rfl
    have e5 : w1.cell? ⟨bg, 5, none⟩ = some v.m.v := hB.cell rfl
    have hml := hG.m.1.1
    refine ⟨fun b3 o3 w' => o3 = 0 ∧ ∃ X0 X1 X2 X3 X4 : Sl, St [] w1 w' [bgC b3 X0 X1 X2 X3 X4 nilS, txs X0.v (gA g), txs X1.v (gS g), txs X2.v (gO g), ints X3.v (gF g), ints X4.v (gN g), b0C br], ?_, ?_⟩
    · refine ⟨_, _, _, hS.frame.cell e0, _, _, _, hS.frame.cell e1, _, _, _, hS.frame.cell e2, _, _, _, hS.frame.cell e3, _, _, _, hS.frame.cell e4, ?_⟩
      have hS := hS.drew
      refine ⟨?_, ?_, trivial⟩
      · skip
        refine Calls.mono (texts40 hS (hG.fr hS.frame).a.1 (by omega)) ?_
        rintro _ _ ⟨X0, rfl, hS⟩
        refine ⟨_, _, _, rfl, ⟨hS.frame.cell e4, hS.frame.cell e3, hS.frame.cell e2, hS.frame.cell e1, hS.frame.cell e0, trivial⟩, ?_⟩
        refine ⟨?_, ?_, trivial⟩
        · skip
          refine Calls.mono (texts40 hS (hG.fr hS.frame).s.1 (by omega)) ?_
          rintro _ _ ⟨X1, rfl, hS⟩
          refine ⟨_, _, _, rfl, ⟨hS.frame.cell e4, hS.frame.cell e3, hS.frame.cell e2, hS.frame.cell e1, hS.frame.cell e0, trivial⟩, ?_⟩
          refine ⟨?_, ?_, trivial⟩
          · skip
            refine Calls.mono (texts40 hS (hG.fr hS.frame).o.1 (by omega)) ?_
            rintro _ _ ⟨X2, rfl, hS⟩
            refine ⟨_, _, _, rfl, ⟨hS.frame.cell e4, hS.frame.cell e3, hS.frame.cell e2, hS.frame.cell e1, hS.frame.cell e0, trivial⟩, ?_⟩
            refine ⟨?_, ?_, trivial⟩
            · skip
              refine Calls.mono (copied0 hS (hG.fr hS.frame).f.1 (by omega)) ?_
              rintro _ _ ⟨X3, rfl, hS⟩
              refine ⟨_, _, _, rfl, ⟨hS.frame.cell e4, hS.frame.cell e3, hS.frame.cell e2, hS.frame.cell e1, hS.frame.cell e0, trivial⟩, ?_⟩
              refine ⟨?_, ?_, trivial⟩
              · skip
                refine Calls.mono (copied0 hS (hG.fr hS.frame).n.1 (by omega)) ?_
                rintro _ _ ⟨X4, rfl, hS⟩
                refine ⟨_, _, _, rfl, ⟨hS.frame.cell e4, hS.frame.cell e3, hS.frame.cell e2, hS.frame.cell e1, hS.frame.cell e0, trivial⟩, ?_⟩
                have hS := hS.alloc #[.slice none 0 0, .slice none 0 0, .slice none 0 0, .slice none 0 0, .slice none 0 0, .slice none 0 0] 29
                refine ⟨⟨hS.frame.cell e4, hS.frame.cell e3, hS.frame.cell e2, hS.frame.cell e1, hS.frame.cell e0, trivial⟩, ?_⟩
                have hS2 := hS.over 0 rfl [X0.v, X1.v, X2.v, X3.v, X4.v, .slice none 0 0] rfl
                exact ⟨(hS.blk 0 rfl).can (by decide), ⟨hS2.frame.cell e4, hS2.frame.cell e3, hS2.frame.cell e2, hS2.frame.cell e1, hS2.frame.cell e0, trivial⟩, rfl, rfl, X0, X1, X2, X3, X4, hS2.sel [0, 5, 4, 3, 2, 1, 6] (by decide) _ rfl⟩
              · skip
                have hS := hS.alloc #[.slice none 0 0, .slice none 0 0, .slice none 0 0, .slice none 0 0, .slice none 0 0, .slice none 0 0] 29
                refine ⟨⟨hS.frame.cell e4, hS.frame.cell e3, hS.frame.cell e2, hS.frame.cell e1, hS.frame.cell e0, trivial⟩, ?_⟩
                refine Calls.mono (copied0 hS (hG.fr hS.frame).n.1 (by omega)) ?_
                rintro _ _ ⟨X4, rfl, hS⟩
                refine ⟨_, _, _, rfl, ⟨hS.frame.cell e4, hS.frame.cell e3, hS.frame.cell e2, hS.frame.cell e1, hS.frame.cell e0, trivial⟩, ?_⟩
                have hS2 := hS.over 1 rfl [X0.v, X1.v, X2.v, X3.v, X4.v, .slice none 0 0] rfl
                exact ⟨(hS.blk 1 rfl).can (by decide), ⟨hS2.frame.cell e4, hS2.frame.cell e3, hS2.frame.cell e2, hS2.frame.cell e1, hS2.frame.cell e0, trivial⟩, rfl, rfl, X0, X1, X2, X3, X4, hS2.sel [1, 5, 4, 3, 2, 0, 6] (by decide) _ rfl⟩
            · skip
              have hS := hS.alloc #[.slice none 0 0, .slice none 0 0, .slice none 0 0, .slice none 0 0, .slice none 0 0, .slice none 0 0] 29
              refine ⟨⟨hS.frame.cell e4, hS.frame.cell e3, hS.frame.cell e2, hS.frame.cell e1, hS.frame.cell e0, trivial⟩, ?_⟩
              refine Calls.mono (copied0 hS (hG.fr hS.frame).f.1 (by omega)) ?_
              rintro _ _ ⟨X3, rfl, hS⟩
              refine ⟨_, _, _, rfl, ⟨hS.frame.cell e4, hS.frame.cell e3, hS.frame.cell e2, hS.frame.cell e1, hS.frame.cell e0, trivial⟩, ?_⟩
              refine Calls.mono (copied0 hS (hG.fr hS.frame).n.1 (by omega)) ?_
              rintro _ _ ⟨X4, rfl, hS⟩
              refine ⟨_, _, _, rfl, ⟨hS.frame.cell e4, hS.frame.cell e3, hS.frame.cell e2, hS.frame.cell e1, hS.frame.cell e0, trivial⟩, ?_⟩
              have hS2 := hS.over 2 rfl [X0.v, X1.v, X2.v, X3.v, X4.v, .slice none 0 0] rfl
              exact ⟨(hS.blk 2 rfl).can (by decide), ⟨hS2.frame.cell e4, hS2.frame.cell e3, hS2.frame.cell e2, hS2.frame.cell e1, hS2.frame.cell e0, trivial⟩, rfl, rfl, X0, X1, X2, X3, X4, hS2.sel [2, 5, 4, 3, 1, 0, 6] (by decide) _ rfl⟩
          · skip
            have hS := hS.alloc #[.slice none 0 0, .slice none 0 0, .slice none 0 0, .slice none 0 0, .slice none 0 0, .slice none 0 0] 29
            refine ⟨⟨hS.frame.cell e4, hS.frame.cell e3, hS.frame.cell e2, hS.frame.cell e1, hS.frame.cell e0, trivial⟩, ?_⟩
            refine Calls.mono (texts40 hS (hG.fr hS.frame).o.1 (by omega)) ?_
            rintro _ _ ⟨X2, rfl, hS⟩
            refine ⟨_, _, _, rfl, ⟨hS.frame.cell e4, hS.frame.cell e3, hS.frame.cell e2, hS.frame.cell e1, hS.frame.cell e0, trivial⟩, ?_⟩
            refine Calls.mono (copied0 hS (hG.fr hS.frame).f.1 (by omega)) ?_
            rintro _ _ ⟨X3, rfl, hS⟩
            refine ⟨_, _, _, rfl, ⟨hS.frame.cell e4, hS.frame.cell e3, hS.frame.cell e2, hS.frame.cell e1, hS.frame.cell e0, trivial⟩, ?_⟩
            refine Calls.mono (copied0 hS (hG.fr hS.frame).n.1 (by omega)) ?_
            rintro _ _ ⟨X4, rfl, hS⟩
            refine ⟨_, _, _, rfl, ⟨hS.frame.cell e4, hS.frame.cell e3, hS.frame.cell e2, hS.frame.cell e1, hS.frame.cell e0, trivial⟩, ?_⟩
            have hS2 := hS.over 3 rfl [X0.v, X1.v, X2.v, X3.v, X4.v, .slice none 0 0] rfl
            exact ⟨(hS.blk 3 rfl).can (by decide), ⟨hS2.frame.cell e4, hS2.frame.cell e3, hS2.frame.cell e2, hS2.frame.cell e1, hS2.frame.cell e0, trivial⟩, rfl, rfl, X0, X1, X2, X3, X4, hS2.sel [3, 5, 4, 2, 1, 0, 6] (by decide) _ rfl⟩
        · skip
          have hS := hS.alloc #[.slice none 0 0, .slice none 0 0, .slice none 0 0, .slice none 0 0, .slice none 0 0, .slice none 0 0] 29
          refine ⟨⟨hS.frame.cell e4, hS.frame.cell e3, hS.frame.cell e2, hS.frame.cell e1, hS.frame.cell e0, trivial⟩, ?_⟩
          refine Calls.mono (texts40 hS (hG.fr hS.frame).s.1 (by omega)) ?_
          rintro _ _ ⟨X1, rfl, hS⟩
          refine ⟨_, _, _, rfl, ⟨hS.frame.cell e4, hS.frame.cell e3, hS.frame.cell e2, hS.frame.cell e1, hS.frame.cell e0, trivial⟩, ?_⟩
          refine Calls.mono (texts40 hS (hG.fr hS.frame).o.1 (by omega)) ?_
          rintro _ _ ⟨X2, rfl, hS⟩
          refine ⟨_, _, _, rfl, ⟨hS.frame.cell e4, hS.frame.cell e3, hS.frame.cell e2, hS.frame.cell e1, hS.frame.cell e0, trivial⟩, ?_⟩
          refine Calls.mono (copied0 hS (hG.fr hS.frame).f.1 (by omega)) ?_
          rintro _ _ ⟨X3, rfl, hS⟩
          refine ⟨_, _, _, rfl, ⟨hS.frame.cell e4, hS.frame.cell e3, hS.frame.cell e2, hS.frame.cell e1, hS.frame.cell e0, trivial⟩, ?_⟩
          refine Calls.mono (copied0 hS (hG.fr hS.frame).n.1 (by omega)) ?_
          rintro _ _ ⟨X4, rfl, hS⟩
          refine ⟨_, _, _, rfl, ⟨hS.frame.cell e4, hS.frame.cell e3, hS.frame.cell e2, hS.frame.cell e1, hS.frame.cell e0, trivial⟩, ?_⟩
          have hS2 := hS.over 4 rfl [X0.v, X1.v, X2.v, X3.v, X4.v, .slice none 0 0] rfl
          exact ⟨(hS.blk 4 rfl).can (by decide), ⟨hS2.frame.cell e4, hS2.frame.cell e3, hS2.frame.cell e2, hS2.frame.cell e1, hS2.frame.cell e0, trivial⟩, rfl, rfl, X0, X1, X2, X3, X4, hS2.sel [4, 5, 3, 2, 1, 0, 6] (by decide) _ rfl⟩
      · skip
        have hS := hS.alloc #[.slice none 0 0, .slice none 0 0, .slice none 0 0, .slice none 0 0, .slice none 0 0, .slice none 0 0] 29
        refine ⟨⟨hS.frame.cell e4, hS.frame.cell e3, hS.frame.cell e2, hS.frame.cell e1, hS.frame.cell e0, trivial⟩, ?_⟩
        refine Calls.mono (texts40 hS (hG.fr hS.frame).a.1 (by omega)) ?_
        rintro _ _ ⟨X0, rfl, hS⟩
        refine ⟨_, _, _, rfl, ⟨hS.frame.cell e4, hS.frame.cell e3, hS.frame.cell e2, hS.frame.cell e1, hS.frame.cell e0, trivial⟩, ?_⟩
        refine Calls.mono (texts40 hS (hG.fr hS.frame).s.1 (by omega)) ?_
        rintro _ _ ⟨X1, rfl, hS⟩
        refine ⟨_, _, _, rfl, ⟨hS.frame.cell e4, hS.frame.cell e3, hS.frame.cell e2, hS.frame.cell e1, hS.frame.cell e0, trivial⟩, ?_⟩
        refine Calls.mono (texts40 hS (hG.fr hS.frame).o.1 (by omega)) ?_
        rintro _ _ ⟨X2, rfl, hS⟩
        refine ⟨_, _, _, rfl, ⟨hS.frame.cell e4, hS.frame.cell e3, hS.frame.cell e2, hS.frame.cell e1, hS.frame.cell e0, trivial⟩, ?_⟩
        refine Calls.mono (copied0 hS (hG.fr hS.frame).f.1 (by omega)) ?_
        rintro _ _ ⟨X3, rfl, hS⟩
        refine ⟨_, _, _, rfl, ⟨hS.frame.cell e4, hS.frame.cell e3, hS.frame.cell e2, hS.frame.cell e1, hS.frame.cell e0, trivial⟩, ?_⟩
        refine Calls.mono (copied0 hS (hG.fr hS.frame).n.1 (by omega)) ?_
        rintro _ _ ⟨X4, rfl, hS⟩
        refine ⟨_, _, _, rfl, ⟨hS.frame.cell e4, hS.frame.cell e3, hS.frame.cell e2, hS.frame.cell e1, hS.frame.cell e0, trivial⟩, ?_⟩
        have hS2 := hS.over 5 rfl [X0.v, X1.v, X2.v, X3.v, X4.v, .slice none 0 0] rfl
        exact ⟨(hS.blk 5 rfl).can (by decide), ⟨hS2.frame.cell e4, hS2.frame.cell e3, hS2.frame.cell e2, hS2.frame.cell e1, hS2.frame.cell e0, trivial⟩, rfl, rfl, X0, X1, X2, X3, X4, hS2.sel [5, 4, 3, 2, 1, 0, 6] (by decide) _ rfl⟩
    · rintro d b3 o3 w3 ⟨rfl, X0, X1, X2, X3, X4, hS3⟩
      have hS3 : St [] w1 w3 (twK b3 br [] [] X0 X1 X2 X3 X4 nilS g) := (hS3.nil 82 1).new (Fr.refl _ _) (c := Chunk.keep (InRs [] [])) (F := []) ⟨fun S w' _ _ => ⟨rfl, fun i hi => by simp at hi⟩, by simp⟩ (by simp)
      refine ⟨fun x w' r => ∃ (i : Nat) (VM : Sl) (vals : List Sl), x = (i : Int) ∧ i + r = v.m.2.1 ∧ St [] w1 w' (twK b3 br vals ((gM g).take i) X0 X1 X2 X3 X4 VM g), ⟨v.m.2.1, 0, nilS, [], rfl, by omega, hS3⟩, ?_⟩
      clear hS3
      rintro d x w4 r ⟨i, VM, vals, rfl, hir, hS⟩
      have gV : vals.length = i := by
        have h1 := (hS.says 0 rfl).1
        rw [h1, List.length_take]; omega
      refine ⟨_, _, _, hS.frame.cell e5, sel_of (fun hd => ?_) (fun hd => ?_)⟩
      · have hi : i < v.m.2.1 := by have := of_decide_eq_true hd; omega
        have hri := take_snoc [] (gM g) i (by omega)
        have hrl : ((gM g).getD i []).length ≤ 1100000 := q7 _ ((mem_getD [] _ _).2 ⟨i, by omega, rfl⟩)
        refine ⟨_, _, _, hS.frame.cell e5, by omega, by omega, (hG.fr hS.frame).m.1.need rfl hi fun B k c hU => ?_⟩
        obtain ⟨ti, i1, i2, i3, i4⟩ := info79
        obtain ⟨A5, n5, c5, w5, r5, hS5⟩ := St.appMany (ty := 82) 0 (enc := encU) (fun _ => rfl) under82 i1 i2 i3 rfl (by omega) (hS.nil 79 1) 0 (l := []) rfl hU.1 hU.2 (c2 := c) (by rw [List.length_nil]; omega)
        rw [List.nil_append] at hS5
        have hS5 : St [] w1 w5 (slU (.slice A5 n5 c5) ((gM g).getD i []) :: twK b3 br vals ((gM g).take i) X0 X1 X2 X3 X4 VM g) := hS5
        obtain ⟨A6, n6, c6, w6, r6, hS6⟩ := appL hS5 2 rfl (A5, n5, c5) (by omega)
        have hS7 : St [] w1 w6 _ := keepRow hS6
        have hS8 := hS7.set 2 rfl 5 [.slice A6 n6 c6]
        rw [inc i 1100000 (by omega) (by omega)]
        refine ⟨A5, n5, c5, w5, r5, _, _, _, (hS5.blk 3 rfl).cell rfl, A6, n6, c6, w6, r6, (hS7.blk 2 rfl).can (by simp), rfl, r - 1, by omega, i + 1, (A6, n6, c6), vals ++ [(A5, n5, c5)], rfl, by omega, ?_⟩
        rw [hri]
        exact hS8
      · have hi : i = v.m.2.1 := by have := of_decide_eq_false hd; omega
        rw [List.take_of_length_le (by omega)] at hS
        have hS9 := hS.over 8 rfl [X0.v, X1.v, X2.v, X3.v, X4.v, VM.v] rfl
        refine ⟨_, _, _, (hS.blk 2 rfl).cell rfl, _, _, _, (hS.blk 2 rfl).cell rfl, _, _, _, (hS.blk 2 rfl).cell rfl, _, _, _, (hS.blk 2 rfl).cell rfl, _, _, _, (hS.blk 2 rfl).cell rfl, _, _, _, (hS.blk 2 rfl).cell rfl, (hS.blk 8 rfl).can (by simp), ?_⟩
        refine ⟨_, _, _, (hS9.blk 8 rfl).cell rfl, _, _, _, (hS9.blk 8 rfl).cell rfl, _, _, _, (hS9.blk 8 rfl).cell rfl, _, _, _, (hS9.blk 8 rfl).cell rfl, _, _, _, (hS9.blk 8 rfl).cell rfl, _, _, _, (hS9.blk 8 rfl).cell rfl, ?_⟩
        exact ⟨⟨X0, X1, X2, X3, X4, VM⟩, rfl, h1.gone (tw_fin hG0.u hS9)⟩
  · rintro e w' ⟨r, rfl, u, rfl, h⟩; exact ⟨u, rfl, h⟩
end PG
end Go.Proofs.Ytjmlfknogjaemaa
/- Page: a graph in memory of its own (twin), each list owned. The forks' part is printed by gen32.py. -/
set_option linter.unusedVariables false
set_option linter.unusedSimpArgs false
set_option maxRecDepth 10000
namespace Go.Proofs.Ytjmlfknogjaemaa
open Go Go.Proofs.Ytjmlfknogjaemaa.Vc
namespace PG
open Vc.PG NI
end PG
end Go.Proofs.Ytjmlfknogjaemaa
/- The plain statements of some functions, printed by vcgen.py. -/
set_option maxRecDepth 100000
set_option linter.unusedVariables false
namespace Go.Proofs.Ytjmlfknogjaemaa
open Go Go.Proofs.Ytjmlfknogjaemaa.Vc
/-- gatehouse/gatehouselaw12.lent -/
def f14.AL : Nat → Option Ann := fun r => match r with | 6 => some ⟨[(10, .int .i64)], [1, 2, 6, 7, 8, 9]⟩ | 12 => some ⟨[(11, .int .i64)], [1, 2, 6, 7, 8, 9]⟩ | 15 => some ⟨[(12, .int .i64)], [1, 2, 6, 7, 8, 9, 11]⟩ | 20 => some ⟨[(13, .int .i64)], [1, 2, 6, 7, 8, 9]⟩ | _ => none
def f14.AC : Nat → Option Ann := fun r => match r with | 1000003 => some ⟨[], []⟩ | _ => none
/-- gatehouse/gatehouselaw12.stands -/
def f23.AL : Nat → Option Ann := fun r => match r with | 2 => some ⟨[(7, .int .i64)], [0, 1, 2]⟩ | 5 => some ⟨[(8, .int .i64)], [0, 1, 2, 7]⟩ | 10 => some ⟨[(9, .int .i64)], [0, 1, 2, 7]⟩ | 15 => some ⟨[(10, .int .i64)], [0, 1, 2, 7]⟩ | _ => none
def f23.AC : Nat → Option Ann := fun _ => none
end Go.Proofs.Ytjmlfknogjaemaa
/- Page: a graph lent (lent): lists with room and marks behind. -/
set_option linter.unusedVariables false
set_option linter.unusedSimpArgs false
set_option maxRecDepth 10000
namespace Go.Proofs.Ytjmlfknogjaemaa
open Go Go.Proofs.Ytjmlfknogjaemaa.Vc
namespace PG
open Vc.PG NI
end PG
end Go.Proofs.Ytjmlfknogjaemaa
/- Page: the marks behind a lent graph stand (stands). -/
set_option linter.unusedVariables false
set_option linter.unusedSimpArgs false
set_option maxRecDepth 10000
namespace Go.Proofs.Ytjmlfknogjaemaa
open Go Go.Proofs.Ytjmlfknogjaemaa.Vc
namespace PG
open Vc.PG NI
end PG
end Go.Proofs.Ytjmlfknogjaemaa
/- Page: laid again, with an index that has its names, a page is the same one: the plain law. -/
set_option linter.unusedVariables false
set_option linter.unusedSimpArgs false
set_option maxRecDepth 10000
namespace Go.Proofs.Ytjmlfknogjaemaa
open Go Go.Proofs.Ytjmlfknogjaemaa.Vc
namespace PG
open Vc.PG NI
theorem nodup_len {α : Type} [DecidableEq α] : ∀ {l m : List α}, l.Nodup → (∀ x ∈ l, x ∈ m) → l.length ≤ m.length
  | [], m, _, _ => Nat.zero_le _
  | k :: l, m, hn, hs => by
    obtain ⟨h1, h2⟩ := List.nodup_cons.1 hn
    have hk : k ∈ m := hs k List.mem_cons_self
    have hl := (List.perm_cons_erase hk).length_eq
    simp only [List.length_cons] at hl ⊢
    have := nodup_len h2 (m := m.erase k) fun x hx => by
      have hne : x ≠ k := fun e => h1 (e ▸ hx)
      exact (List.mem_erase_of_ne hne).2 (hs x (List.mem_cons_of_mem _ hx))
    omega
theorem num_zero {l : List ByteArray} {s : ByteArray} : IX.num l s = 0 ↔ ¬ s ∈ l := by
  unfold IX.num
  cases hx : l.findIdx? (fun x => decide (x = s)) with
  | none =>
    refine ⟨fun _ hm => ?_, fun _ => rfl⟩
    have := List.findIdx?_eq_none_iff.1 hx s hm
    simp at this
  | some j =>
    obtain ⟨hj, he, _⟩ := List.findIdx?_eq_some_iff_getElem.mp hx
    refine ⟨fun h => by simp at h, fun h => absurd ?_ h⟩
    have := of_decide_eq_true he
    rw [← this]
    exact List.getElem_mem hj
theorem num_app {l : List ByteArray} {s : ByteArray} (h : s ∈ l) (r : List ByteArray) : IX.num (l ++ r) s = IX.num l s := by
  unfold IX.num
  rw [List.findIdx?_append]
  cases hx : l.findIdx? (fun x => decide (x = s)) with
  | none =>
    have := List.findIdx?_eq_none_iff.1 hx s h
    simp at this
  | some j => rfl
theorem num_new {l : List ByteArray} {s : ByteArray} (h : ¬ s ∈ l) (r : List ByteArray) : IX.num (l ++ s :: r) s = l.length + 1 := by
  unfold IX.num
  rw [List.findIdx?_append]
  have hx : l.findIdx? (fun x => decide (x = s)) = none := List.findIdx?_eq_none_iff.2 fun x hx => by
    refine decide_eq_false fun e => h (e ▸ hx)
  rw [hx, List.findIdx?_cons]
  simp
theorem of_app (l : List ByteArray) (s : ByteArray) : ∃ r, IX.of l s = l ++ r := by
  unfold IX.of
  split
  · split
    · exact ⟨[], by simp⟩
    · exact ⟨[s], rfl⟩
  · exact ⟨[], by simp⟩
theorem all_app : ∀ (ns l : List ByteArray), ∃ r, all l ns = l ++ r
  | [], l => ⟨[], by simp [all]⟩
  | s :: ns, l => by
    obtain ⟨r, h⟩ := of_app l s
    obtain ⟨q, h2⟩ := all_app ns (IX.of l s)
    exact ⟨r ++ q, by show all (IX.of l s) ns = _; rw [h2, h, List.append_assoc]⟩
theorem of_full {l : List ByteArray} (h : l.length ≥ 1048576) (s : ByteArray) : IX.of l s = l := by
  unfold IX.of
  split
  · rfl
  · rfl
theorem all_full : ∀ (ns : List ByteArray) {l : List ByteArray}, l.length ≥ 1048576 → all l ns = l
  | [], l, _ => rfl
  | s :: ns, l, h => by show all (IX.of l s) ns = l; rw [of_full h]; exact all_full ns h
theorem ofN_all {l ns : List ByteArray} {s : ByteArray} (h : s ∈ all l (s :: ns)) : IX.ofN l s = IX.num (all l (s :: ns)) s := by
  have e : all l (s :: ns) = all (IX.of l s) ns := rfl
  rw [e] at h ⊢
  unfold IX.ofN IX.of at *
  split
  · rename_i h0
    rw [if_pos h0] at h
    split
    · rename_i hf
      rw [if_pos hf] at h
      rw [all_full ns hf] at h
      exact absurd h (num_zero.1 h0)
    · rename_i hf
      obtain ⟨r, hr⟩ := all_app ns (l ++ [s])
      rw [hr, List.append_assoc]
      exact (num_new (num_zero.1 h0) r).symm
  · rename_i h0
    obtain ⟨r, hr⟩ := all_app ns l
    rw [hr]
    exact (num_app (Classical.not_not.1 fun hm => h0 (num_zero.2 hm)) r).symm
/-- A name's key is put down; the names have their numbers. -/
def putK (L : List ByteArray) (Z : List Pz) (e : En) : List Pz := putZ Z ((IX.num L e.1 : Int) * 4 + e.2.1) e.2.2
theorem layGo_tab : ∀ (es : List En) (l : List ByteArray) (Z : List Pz) (L : List ByteArray), (∃ r, L = all l (es.map (·.1)) ++ r) → (∀ e ∈ es, e.1 ∈ all l (es.map (·.1))) →
    layGo es (l, Z) = (all l (es.map (·.1)), es.foldl (putK L) Z)
  | [], l, Z, L, _, _ => rfl
  | e :: es, l, Z, L, ⟨r, hr⟩, hin => by
    have h1 : IX.ofN l e.1 = IX.num L e.1 := by
      have hm := hin e List.mem_cons_self
      rw [hr, num_app hm]
      exact ofN_all hm
    have h2 := layGo_tab es (IX.of l e.1) (putK L Z e) L ⟨r, hr⟩ (fun x hx => hin x (List.mem_cons_of_mem _ hx))
    have e0 : layGo (e :: es) (l, Z) = layGo es (layStep (l, Z) e) := rfl
    have e1 : layStep (l, Z) e = (IX.of l e.1, putK L Z e) := by unfold layStep putK; rw [h1]
    rw [e0, e1, h2]
    rfl
theorem wantGo_ge (l : List ByteArray) : ∀ (ns acc : List ByteArray), acc.length ≤ (wantGo l ns acc).length
  | [], acc => Nat.le_refl _
  | s :: ns, acc => by
    rw [wantGo]
    split
    · have := wantGo_ge l ns (acc ++ [s]); rw [List.length_append] at this; omega
    · exact wantGo_ge l ns acc
theorem all_want : ∀ (ns l acc : List ByteArray), l.length + (wantGo l ns acc).length ≤ 1048576 → all (l ++ acc) ns = l ++ wantGo l ns acc
  | [], l, acc, _ => rfl
  | s :: ns, l, acc, h => by
    show all (IX.of (l ++ acc) s) ns = _
    rw [wantGo] at h ⊢
    split
    · rename_i hs
      rw [if_pos hs] at h
      have hg := wantGo_ge l ns (acc ++ [s])
      rw [List.length_append, List.length_singleton] at hg
      have h0 : IX.num (l ++ acc) s = 0 := num_zero.2 fun hm => by
        rcases List.mem_append.1 hm with h1 | h1
        · exact num_zero.1 hs.1 h1
        · have := (memB_iff _ _).2 h1
          rw [hs.2] at this; cases this
      have e : IX.of (l ++ acc) s = l ++ (acc ++ [s]) := by
        unfold IX.of
        rw [if_pos h0, if_neg (by rw [List.length_append]; omega), List.append_assoc]
      rw [e]
      exact all_want ns l (acc ++ [s]) h
    · rename_i hs
      rw [if_neg hs] at h
      have h0 : ¬ IX.num (l ++ acc) s = 0 := fun h0 => hs (by
        have h1 := num_zero.1 h0
        refine ⟨num_zero.2 fun hm => h1 (List.mem_append.2 (.inl hm)), ?_⟩
        cases hm : memB acc s with
        | false => rfl
        | true => exact absurd (List.mem_append.2 (.inr ((memB_iff _ _).1 hm))) h1)
      have e : IX.of (l ++ acc) s = l ++ acc := by
        unfold IX.of
        rw [if_neg h0]
      rw [e]
      exact all_want ns l acc h
theorem all_in {ns l : List ByteArray} (h : l.length + (wantGo l ns []).length ≤ 1048576) {s : ByteArray} (hs : s ∈ ns) : s ∈ all l ns := by
  have e := all_want ns l [] h
  rw [List.append_nil] at e
  rw [e, List.mem_append]
  by_cases hm : s ∈ l
  · exact .inl hm
  · exact .inr ((wantGo_mem l s ns []).2 (.inr ⟨hs, num_zero.2 hm⟩))
theorem ensOf_fst {l : List ByteArray} {k : Int} {n : List Int} (h : l.length = n.length) : (ensOf l k n).map (·.1) = l := by
  unfold ensOf
  rw [List.map_map]
  have e : ((fun x : En => x.1) ∘ fun p : ByteArray × Int => (p.1, k, p.2)) = Prod.fst := rfl
  rw [e, List.map_fst_zip]
  omega
theorem upTo_len (n : Nat) : (upTo n).length = n := by simp [upTo]
theorem ens_fst {g : Gd} (h : (gF g).length = (gS g).length ∧ (gN g).length = (gO g).length) : (ens g).map (·.1) = names g := by
  unfold ens names
  rw [List.map_append, List.map_append, ensOf_fst (by rw [upTo_len]), ensOf_fst h.1.symm, ensOf_fst h.2.symm]
/-- How a valid graph is laid, where there is room. -/
theorem layZ_eq {g : Gd} (hv : validP g = true) {l : List ByteArray} (hr : l.length + freshN l g ≤ 1048576) (r : List ByteArray) :
    layZ g l = (all l (names g), (ens g).foldl (putK (all l (names g) ++ r)) (List.replicate (tOf g) pz0)) := by
  obtain ⟨⟨_, _, _, h1, h2⟩, _⟩ := valid_parts hv
  have e := ens_fst (g := g) ⟨h1, h2⟩
  have h := layGo_tab (ens g) l (List.replicate (tOf g) pz0) (all l (names g) ++ r) ⟨r, by rw [e]⟩ (fun x hx => by
    rw [e]
    exact all_in hr (e ▸ List.mem_map.2 ⟨x, hx, rfl⟩))
  rw [e] at h
  exact h
theorem lay_names (v : Int) (g : Gd) (l : List ByteArray) : ∃ r, (layP v g l).2.2 = l ++ r := by
  unfold layP
  split
  · exact ⟨[], by simp⟩
  split
  · exact ⟨[], by simp⟩
  split
  · exact ⟨[], by simp⟩
  rename_i _ hv hr
  have hv : validP g = true := by cases h : validP g with | true => rfl | false => exact absurd h hv
  rw [layZ_eq hv (by omega) []]
  exact all_app _ _
theorem lay_le (v : Int) (g : Gd) {l : List ByteArray} (h : l.length ≤ 1048576) : (layP v g l).2.2.length ≤ 1048576 := by
  unfold layP
  split
  · exact h
  split
  · exact h
  split
  · exact h
  rename_i _ hv hr
  have hv : validP g = true := by cases h : validP g with | true => rfl | false => exact absurd h hv
  rw [layZ_eq hv (by omega) []]
  exact all_le _ _ h
end PG
end Go.Proofs.Ytjmlfknogjaemaa
