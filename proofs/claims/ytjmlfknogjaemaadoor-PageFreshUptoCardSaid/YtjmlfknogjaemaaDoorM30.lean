/- Page: a graph in memory of its own (twin). The forks' part is printed by gen32.py. -/
import Derived.Test.YtjmlfknogjaemaaDoorM26
import Derived.Test.YtjmlfknogjaemaaDoorM29
import Derived.Test.YtjmlfknogjaemaaDoorM5
import Derived.Test.YtjmlfknogjaemaaDoorProg
import Derived.Test.YtjmlfknogjaemaaDoorM28
set_option linter.unusedVariables false
set_option linter.unusedSimpArgs false
set_option maxRecDepth 10000
namespace Go.Proofs.YtjmlfknogjaemaaDoor
open Go Go.Proofs.YtjmlfknogjaemaaDoor.Vc
namespace PG
open Vc.PG NI
theorem texts40 {S : List Nat} {w0 w : World} {L : List Chunk} (h : St S w0 w L) {A : Option Addr} {n c : Nat} {l : List ByteArray} (hW : InX w A n l) (hn : n ≤ 3000000) :
    Calls Tryd.prog 37 #[.slice A n c] w fun e w' => ∃ X : Sl, e = .returned X.v ∧ St S w0 w' (txs X.v l :: L) := by
  refine Calls.mono (f37.calls (R := fun v w' => ∃ X : Sl, v = X.v ∧ St S w0 w' (txs X.v l :: L)) ?_) ?_
  · dsimp only [f37.VC]
    have hl := hW.1
    obtain ⟨ti, i1, i2, i3, i4⟩ := info9
    obtain ⟨A1, n1, c1, w1, r1, hS1⟩ := St.appMany (ty := 27) ByteArray.empty (enc := encS) (fun _ => rfl) under25 i1 i2 i3 rfl (by omega) (h.nil 9 1) 0 (l := []) rfl hW.1 hW.2 (c2 := c) (by simp; omega)
    exact ⟨A1, n1, c1, w1, r1, (A1, n1, c1), rfl, hS1⟩
  · rintro e w' ⟨v, rfl, X, rfl, h⟩; exact ⟨X, rfl, h⟩
theorem copied0 {S : List Nat} {w0 w : World} {L : List Chunk} (h : St S w0 w L) {A : Option Addr} {n c : Nat} {W : List Int} (hW : InW w A n W) (hn : n ≤ 3000000) :
    Calls Tryd.prog 14 #[.slice A n c, .int .i64 0] w fun e w' => ∃ X : Sl, e = .returned X.v ∧ St S w0 w' (ints X.v W :: L) := by
  refine Calls.mono (copiedC (k := 0) h hW hn (by decide)) ?_
  rintro e w' ⟨X, rfl, hS⟩
  exact ⟨X, rfl, by simpa [marksL] using hS⟩
abbrev twK (b3 br : Nat) (vals : List Sl) (M : List (List Int)) (X0 X1 X2 X3 X4 VM : Sl) (g : Gd) : List Chunk :=
  [Chunk.keep (InRs vals M), Chunk.ls encL 29 VM.v vals, bgC b3 X0 X1 X2 X3 X4 VM, txs X0.v (gA g), txs X1.v (gS g), txs X2.v (gO g), ints X3.v (gF g), ints X4.v (gN g), b0C br]
theorem tw_fin {S : List Nat} {w0 w : World} {vals : List Sl} {X0 X1 X2 X3 X4 VM : Sl} {g : Gd} {B1 B2 : Chunk} (hu : ∀ r ∈ gM g, ∀ x ∈ r, 0 ≤ x ∧ x < 65536)
    (hS : St S w0 w [Chunk.keep (InRs vals (gM g)), Chunk.ls encL 29 VM.v vals, B1, txs X0.v (gA g), txs X1.v (gS g), txs X2.v (gO g), ints X3.v (gF g), ints X4.v (gN g), B2]) : St S w0 w [gC ⟨X0, X1, X2, X3, X4, VM⟩ g] := by
  have h1 := hS.sel [0, 1, 3, 4, 5, 6, 7] (by decide) [Chunk.keep (InRs vals (gM g)), Chunk.ls encL 29 VM.v vals, txs X0.v (gA g), txs X1.v (gS g), txs X2.v (gO g), ints X3.v (gF g), ints X4.v (gN g)] rfl
  refine h1.join.join.join.join.join.join.keep 0 rfl _ ?_
  rintro F w ⟨_, _, rfl, ⟨_, _, rfl, ⟨_, _, rfl, ⟨_, _, rfl, ⟨_, _, rfl, ⟨_, _, rfl, k1, k2, _⟩, k3, _⟩, k4, _⟩, k5, _⟩, k6, _⟩, k7, _⟩
  have e1 := Chunk.keep_says k1
  have e3 := Chunk.ls_says ByteArray.empty k3
  have e4 := Chunk.ls_says ByteArray.empty k4
  have e5 := Chunk.ls_says ByteArray.empty k5
  have e6 := Chunk.ls_says 0 k6
  have e7 := Chunk.ls_says 0 k7
  have em := rs_inM e1 k2
  exact ⟨⟨⟨e3.1, e3.2.2⟩, e3.2.1⟩, ⟨⟨e4.1, e4.2.2⟩, e4.2.1⟩, ⟨⟨e5.1, e5.2.2⟩, e5.2.1⟩, ⟨⟨e6.1, e6.2.2⟩, e6.2.1⟩, ⟨⟨e7.1, e7.2.2⟩, e7.2.1⟩, em, hu⟩
theorem twinC {S : List Nat} {w0 w : World} {K : List Chunk} (h : St S w0 w K) {v : GV} {g : Gd} (hG0 : InG w v g) (hb : (v.a.2.1 ≤ 1100000 ∧ v.s.2.1 ≤ 1100000 ∧ v.o.2.1 ≤ 1100000 ∧ v.f.2.1 ≤ 1100000 ∧ v.n.2.1 ≤ 1100000 ∧ v.m.2.1 ≤ 1100000) ∧ ∀ r ∈ gM g, r.length ≤ 1100000) :
    Calls Tryd.prog 13 #[v.v] w fun e w' => ∃ u : GV, e = .returned u.v ∧ St S w0 w' (gC u g :: K) := by
  refine Calls.mono (f13.calls (R := fun r w' => ∃ u : GV, r = u.v ∧ St S w0 w' (gC u g :: K)) ?_) ?_
  · dsimp only [f13.VC]
    have h1 := h.go ((Fr.refl [] w).alloc (cs := v.cells) (T := 32))
    have hG := hG0.fr ((Fr.refl [] w).alloc (cs := v.cells) (T := 32))
    have hB : Blk (World.alloc w (.cells v.cells 32)) w.heap.size v.cells 32 := Blk.new
    generalize w.heap.size = bg at *
    generalize World.alloc w (.cells v.cells 32) = w1 at *
    have hS := (St.start w1).alloc #[.slice none 0 0, .slice none 0 0, .slice none 0 0, .slice none 0 0, .slice none 0 0, .slice none 0 0] 32
    generalize w1.heap.size = br at *
    generalize World.alloc w1 (.cells #[.slice none 0 0, .slice none 0 0, .slice none 0 0, .slice none 0 0, .slice none 0 0, .slice none 0 0] 32) = w2 at *
    obtain ⟨⟨q1, q2, q3, q4, q5, q6⟩, q7⟩ := hb
    have e0 : w1.cell? ⟨bg, 0, none⟩ = some v.a.v := hB.cell rfl
    have e1 : w1.cell? ⟨bg, 1, none⟩ = some v.s.v := hB.cell rfl
    have e2 : w1.cell? ⟨bg, 2, none⟩ = some v.o.v := hB.cell rfl
    have e3 : w1.cell? ⟨bg, 3, none⟩ = some v.f.v := hB.cell rfl
    have e4 : w1.cell? ⟨bg, 4, none⟩ = some v.n.v := hB.cell rfl
    have e5 : w1.cell? ⟨bg, 5, none⟩ = some v.m.v := hB.cell rfl
    have hml := hG.m.1.1
    refine ⟨fun b3 o3 w' => o3 = 0 ∧ ∃ X0 X1 X2 X3 X4 : Sl, St [] w1 w' [bgC b3 X0 X1 X2 X3 X4 nilS, txs X0.v (gA g), txs X1.v (gS g), txs X2.v (gO g), ints X3.v (gF g), ints X4.v (gN g), b0C br], ?_, ?_⟩
    · refine ⟨_, _, _, hS.frame.cell e0, _, _, _, hS.frame.cell e1, _, _, _, hS.frame.cell e2, _, _, _, hS.frame.cell e3, _, _, _, hS.frame.cell e4, ?_⟩
      have hS := hS.drew
      refine ⟨?_, ?_, trivial⟩
      · skip
        refine Calls.mono (texts40 hS (hG.fr hS.frame).a.1 (by omega)) ?_
        rintro _ _ ⟨X0, rfl, hS⟩
        refine ⟨_, _, _, rfl, ⟨hS.frame.cell e4, hS.frame.cell e3, hS.frame.cell e2, hS.frame.cell e1, hS.frame.cell e0, trivial⟩, ?_⟩
        refine ⟨?_, ?_, trivial⟩
        · skip
          refine Calls.mono (texts40 hS (hG.fr hS.frame).s.1 (by omega)) ?_
          rintro _ _ ⟨X1, rfl, hS⟩
          refine ⟨_, _, _, rfl, ⟨hS.frame.cell e4, hS.frame.cell e3, hS.frame.cell e2, hS.frame.cell e1, hS.frame.cell e0, trivial⟩, ?_⟩
          refine ⟨?_, ?_, trivial⟩
          · skip
            refine Calls.mono (texts40 hS (hG.fr hS.frame).o.1 (by omega)) ?_
            rintro _ _ ⟨X2, rfl, hS⟩
            refine ⟨_, _, _, rfl, ⟨hS.frame.cell e4, hS.frame.cell e3, hS.frame.cell e2, hS.frame.cell e1, hS.frame.cell e0, trivial⟩, ?_⟩
            refine ⟨?_, ?_, trivial⟩
            · skip
              refine Calls.mono (copied0 hS (hG.fr hS.frame).f.1 (by omega)) ?_
              rintro _ _ ⟨X3, rfl, hS⟩
              refine ⟨_, _, _, rfl, ⟨hS.frame.cell e4, hS.frame.cell e3, hS.frame.cell e2, hS.frame.cell e1, hS.frame.cell e0, trivial⟩, ?_⟩
              refine ⟨?_, ?_, trivial⟩
              · skip
                refine Calls.mono (copied0 hS (hG.fr hS.frame).n.1 (by omega)) ?_
                rintro _ _ ⟨X4, rfl, hS⟩
                refine ⟨_, _, _, rfl, ⟨hS.frame.cell e4, hS.frame.cell e3, hS.frame.cell e2, hS.frame.cell e1, hS.frame.cell e0, trivial⟩, ?_⟩
                have hS := hS.alloc #[.slice none 0 0, .slice none 0 0, .slice none 0 0, .slice none 0 0, .slice none 0 0, .slice none 0 0] 32
                refine ⟨⟨hS.frame.cell e4, hS.frame.cell e3, hS.frame.cell e2, hS.frame.cell e1, hS.frame.cell e0, trivial⟩, ?_⟩
                have hS2 := hS.over 0 rfl [X0.v, X1.v, X2.v, X3.v, X4.v, .slice none 0 0] rfl
                exact ⟨(hS.blk 0 rfl).can (by decide), ⟨hS2.frame.cell e4, hS2.frame.cell e3, hS2.frame.cell e2, hS2.frame.cell e1, hS2.frame.cell e0, trivial⟩, rfl, rfl, X0, X1, X2, X3, X4, hS2.sel [0, 5, 4, 3, 2, 1, 6] (by decide) _ rfl⟩
              · skip
                have hS := hS.alloc #[.slice none 0 0, .slice none 0 0, .slice none 0 0, .slice none 0 0, .slice none 0 0, .slice none 0 0] 32
                refine ⟨⟨hS.frame.cell e4, hS.frame.cell e3, hS.frame.cell e2, hS.frame.cell e1, hS.frame.cell e0, trivial⟩, ?_⟩
                refine Calls.mono (copied0 hS (hG.fr hS.frame).n.1 (by omega)) ?_
                rintro _ _ ⟨X4, rfl, hS⟩
                refine ⟨_, _, _, rfl, ⟨hS.frame.cell e4, hS.frame.cell e3, hS.frame.cell e2, hS.frame.cell e1, hS.frame.cell e0, trivial⟩, ?_⟩
                have hS2 := hS.over 1 rfl [X0.v, X1.v, X2.v, X3.v, X4.v, .slice none 0 0] rfl
                exact ⟨(hS.blk 1 rfl).can (by decide), ⟨hS2.frame.cell e4, hS2.frame.cell e3, hS2.frame.cell e2, hS2.frame.cell e1, hS2.frame.cell e0, trivial⟩, rfl, rfl, X0, X1, X2, X3, X4, hS2.sel [1, 5, 4, 3, 2, 0, 6] (by decide) _ rfl⟩
            · skip
              have hS := hS.alloc #[.slice none 0 0, .slice none 0 0, .slice none 0 0, .slice none 0 0, .slice none 0 0, .slice none 0 0] 32
              refine ⟨⟨hS.frame.cell e4, hS.frame.cell e3, hS.frame.cell e2, hS.frame.cell e1, hS.frame.cell e0, trivial⟩, ?_⟩
              refine Calls.mono (copied0 hS (hG.fr hS.frame).f.1 (by omega)) ?_
              rintro _ _ ⟨X3, rfl, hS⟩
              refine ⟨_, _, _, rfl, ⟨hS.frame.cell e4, hS.frame.cell e3, hS.frame.cell e2, hS.frame.cell e1, hS.frame.cell e0, trivial⟩, ?_⟩
              refine Calls.mono (copied0 hS (hG.fr hS.frame).n.1 (by omega)) ?_
              rintro _ _ ⟨X4, rfl, hS⟩
              refine ⟨_, _, _, rfl, ⟨hS.frame.cell e4, hS.frame.cell e3, hS.frame.cell e2, hS.frame.cell e1, hS.frame.cell e0, trivial⟩, ?_⟩
              have hS2 := hS.over 2 rfl [X0.v, X1.v, X2.v, X3.v, X4.v, .slice none 0 0] rfl
              exact ⟨(hS.blk 2 rfl).can (by decide), ⟨hS2.frame.cell e4, hS2.frame.cell e3, hS2.frame.cell e2, hS2.frame.cell e1, hS2.frame.cell e0, trivial⟩, rfl, rfl, X0, X1, X2, X3, X4, hS2.sel [2, 5, 4, 3, 1, 0, 6] (by decide) _ rfl⟩
          · skip
            have hS := hS.alloc #[.slice none 0 0, .slice none 0 0, .slice none 0 0, .slice none 0 0, .slice none 0 0, .slice none 0 0] 32
            refine ⟨⟨hS.frame.cell e4, hS.frame.cell e3, hS.frame.cell e2, hS.frame.cell e1, hS.frame.cell e0, trivial⟩, ?_⟩
            refine Calls.mono (texts40 hS (hG.fr hS.frame).o.1 (by omega)) ?_
            rintro _ _ ⟨X2, rfl, hS⟩
            refine ⟨_, _, _, rfl, ⟨hS.frame.cell e4, hS.frame.cell e3, hS.frame.cell e2, hS.frame.cell e1, hS.frame.cell e0, trivial⟩, ?_⟩
            refine Calls.mono (copied0 hS (hG.fr hS.frame).f.1 (by omega)) ?_
            rintro _ _ ⟨X3, rfl, hS⟩
            refine ⟨_, _, _, rfl, ⟨hS.frame.cell e4, hS.frame.cell e3, hS.frame.cell e2, hS.frame.cell e1, hS.frame.cell e0, trivial⟩, ?_⟩
            refine Calls.mono (copied0 hS (hG.fr hS.frame).n.1 (by omega)) ?_
            rintro _ _ ⟨X4, rfl, hS⟩
            refine ⟨_, _, _, rfl, ⟨hS.frame.cell e4, hS.frame.cell e3, hS.frame.cell e2, hS.frame.cell e1, hS.frame.cell e0, trivial⟩, ?_⟩
            have hS2 := hS.over 3 rfl [X0.v, X1.v, X2.v, X3.v, X4.v, .slice none 0 0] rfl
            exact ⟨(hS.blk 3 rfl).can (by decide), ⟨hS2.frame.cell e4, hS2.frame.cell e3, hS2.frame.cell e2, hS2.frame.cell e1, hS2.frame.cell e0, trivial⟩, rfl, rfl, X0, X1, X2, X3, X4, hS2.sel [3, 5, 4, 2, 1, 0, 6] (by decide) _ rfl⟩
        · skip
          have hS := hS.alloc #[.slice none 0 0, .slice none 0 0, .slice none 0 0, .slice none 0 0, .slice none 0 0, .slice none 0 0] 32
          refine ⟨⟨hS.frame.cell e4, hS.frame.cell e3, hS.frame.cell e2, hS.frame.cell e1, hS.frame.cell e0, trivial⟩, ?_⟩
          refine Calls.mono (texts40 hS (hG.fr hS.frame).s.1 (by omega)) ?_
          rintro _ _ ⟨X1, rfl, hS⟩
          refine ⟨_, _, _, rfl, ⟨hS.frame.cell e4, hS.frame.cell e3, hS.frame.cell e2, hS.frame.cell e1, hS.frame.cell e0, trivial⟩, ?_⟩
          refine Calls.mono (texts40 hS (hG.fr hS.frame).o.1 (by omega)) ?_
          rintro _ _ ⟨X2, rfl, hS⟩
          refine ⟨_, _, _, rfl, ⟨hS.frame.cell e4, hS.frame.cell e3, hS.frame.cell e2, hS.frame.cell e1, hS.frame.cell e0, trivial⟩, ?_⟩
          refine Calls.mono (copied0 hS (hG.fr hS.frame).f.1 (by omega)) ?_
          rintro _ _ ⟨X3, rfl, hS⟩
          refine ⟨_, _, _, rfl, ⟨hS.frame.cell e4, hS.frame.cell e3, hS.frame.cell e2, hS.frame.cell e1, hS.frame.cell e0, trivial⟩, ?_⟩
          refine Calls.mono (copied0 hS (hG.fr hS.frame).n.1 (by omega)) ?_
          rintro _ _ ⟨X4, rfl, hS⟩
          refine ⟨_, _, _, rfl, ⟨hS.frame.cell e4, hS.frame.cell e3, hS.frame.cell e2, hS.frame.cell e1, hS.frame.cell e0, trivial⟩, ?_⟩
          have hS2 := hS.over 4 rfl [X0.v, X1.v, X2.v, X3.v, X4.v, .slice none 0 0] rfl
          exact ⟨(hS.blk 4 rfl).can (by decide), ⟨hS2.frame.cell e4, hS2.frame.cell e3, hS2.frame.cell e2, hS2.frame.cell e1, hS2.frame.cell e0, trivial⟩, rfl, rfl, X0, X1, X2, X3, X4, hS2.sel [4, 5, 3, 2, 1, 0, 6] (by decide) _ rfl⟩
      · skip
        have hS := hS.alloc #[.slice none 0 0, .slice none 0 0, .slice none 0 0, .slice none 0 0, .slice none 0 0, .slice none 0 0] 32
        refine ⟨⟨hS.frame.cell e4, hS.frame.cell e3, hS.frame.cell e2, hS.frame.cell e1, hS.frame.cell e0, trivial⟩, ?_⟩
        refine Calls.mono (texts40 hS (hG.fr hS.frame).a.1 (by omega)) ?_
        rintro _ _ ⟨X0, rfl, hS⟩
        refine ⟨_, _, _, rfl, ⟨hS.frame.cell e4, hS.frame.cell e3, hS.frame.cell e2, hS.frame.cell e1, hS.frame.cell e0, trivial⟩, ?_⟩
        refine Calls.mono (texts40 hS (hG.fr hS.frame).s.1 (by omega)) ?_
        rintro _ _ ⟨X1, rfl, hS⟩
        refine ⟨_, _, _, rfl, ⟨hS.frame.cell e4, hS.frame.cell e3, hS.frame.cell e2, hS.frame.cell e1, hS.frame.cell e0, trivial⟩, ?_⟩
        refine Calls.mono (texts40 hS (hG.fr hS.frame).o.1 (by omega)) ?_
        rintro _ _ ⟨X2, rfl, hS⟩
        refine ⟨_, _, _, rfl, ⟨hS.frame.cell e4, hS.frame.cell e3, hS.frame.cell e2, hS.frame.cell e1, hS.frame.cell e0, trivial⟩, ?_⟩
        refine Calls.mono (copied0 hS (hG.fr hS.frame).f.1 (by omega)) ?_
        rintro _ _ ⟨X3, rfl, hS⟩
        refine ⟨_, _, _, rfl, ⟨hS.frame.cell e4, hS.frame.cell e3, hS.frame.cell e2, hS.frame.cell e1, hS.frame.cell e0, trivial⟩, ?_⟩
        refine Calls.mono (copied0 hS (hG.fr hS.frame).n.1 (by omega)) ?_
        rintro _ _ ⟨X4, rfl, hS⟩
        refine ⟨_, _, _, rfl, ⟨hS.frame.cell e4, hS.frame.cell e3, hS.frame.cell e2, hS.frame.cell e1, hS.frame.cell e0, trivial⟩, ?_⟩
        have hS2 := hS.over 5 rfl [X0.v, X1.v, X2.v, X3.v, X4.v, .slice none 0 0] rfl
        exact ⟨(hS.blk 5 rfl).can (by decide), ⟨hS2.frame.cell e4, hS2.frame.cell e3, hS2.frame.cell e2, hS2.frame.cell e1, hS2.frame.cell e0, trivial⟩, rfl, rfl, X0, X1, X2, X3, X4, hS2.sel [5, 4, 3, 2, 1, 0, 6] (by decide) _ rfl⟩
    · rintro d b3 o3 w3 ⟨rfl, X0, X1, X2, X3, X4, hS3⟩
      have hS3 : St [] w1 w3 (twK b3 br [] [] X0 X1 X2 X3 X4 nilS g) := (hS3.nil 29 1).new (Fr.refl _ _) (c := Chunk.keep (InRs [] [])) (F := []) ⟨fun S w' _ _ => ⟨rfl, fun i hi => by simp at hi⟩, by simp⟩ (by simp)
      refine ⟨fun x w' r => ∃ (i : Nat) (VM : Sl) (vals : List Sl), x = (i : Int) ∧ i + r = v.m.2.1 ∧ St [] w1 w' (twK b3 br vals ((gM g).take i) X0 X1 X2 X3 X4 VM g), ⟨v.m.2.1, 0, nilS, [], rfl, by omega, hS3⟩, ?_⟩
      clear hS3
      rintro d x w4 r ⟨i, VM, vals, rfl, hir, hS⟩
      have gV : vals.length = i := by
        have h1 := (hS.says 0 rfl).1
        rw [h1, List.length_take]; omega
      refine ⟨_, _, _, hS.frame.cell e5, sel_of (fun hd => ?_) (fun hd => ?_)⟩
      · have hi : i < v.m.2.1 := by have := of_decide_eq_true hd; omega
        have hri := take_snoc [] (gM g) i (by omega)
        have hrl : ((gM g).getD i []).length ≤ 1100000 := q7 _ ((mem_getD [] _ _).2 ⟨i, by omega, rfl⟩)
        refine ⟨_, _, _, hS.frame.cell e5, by omega, by omega, (hG.fr hS.frame).m.1.need rfl hi fun B k c hU => ?_⟩
        obtain ⟨ti, i1, i2, i3, i4⟩ := info79
        obtain ⟨A5, n5, c5, w5, r5, hS5⟩ := St.appMany (ty := 29) 0 (enc := encU) (fun _ => rfl) under82 i1 i2 i3 rfl (by omega) (hS.nil 59 1) 0 (l := []) rfl hU.1 hU.2 (c2 := c) (by rw [List.length_nil]; omega)
        rw [List.nil_append] at hS5
        have hS5 : St [] w1 w5 (slU (.slice A5 n5 c5) ((gM g).getD i []) :: twK b3 br vals ((gM g).take i) X0 X1 X2 X3 X4 VM g) := hS5
        obtain ⟨A6, n6, c6, w6, r6, hS6⟩ := appL hS5 2 rfl (A5, n5, c5) (by omega)
        have hS7 : St [] w1 w6 _ := keepRow hS6
        have hS8 := hS7.set 2 rfl 5 [.slice A6 n6 c6]
        rw [inc i 1100000 (by omega) (by omega)]
        refine ⟨A5, n5, c5, w5, r5, _, _, _, (hS5.blk 3 rfl).cell rfl, A6, n6, c6, w6, r6, (hS7.blk 2 rfl).can (by simp), rfl, r - 1, by omega, i + 1, (A6, n6, c6), vals ++ [(A5, n5, c5)], rfl, by omega, ?_⟩
        rw [hri]
        exact hS8
      · have hi : i = v.m.2.1 := by have := of_decide_eq_false hd; omega
        rw [List.take_of_length_le (by omega)] at hS
        have hS9 := hS.over 8 rfl [X0.v, X1.v, X2.v, X3.v, X4.v, VM.v] rfl
        refine ⟨_, _, _, (hS.blk 2 rfl).cell rfl, _, _, _, (hS.blk 2 rfl).cell rfl, _, _, _, (hS.blk 2 rfl).cell rfl, _, _, _, (hS.blk 2 rfl).cell rfl, _, _, _, (hS.blk 2 rfl).cell rfl, _, _, _, (hS.blk 2 rfl).cell rfl, (hS.blk 8 rfl).can (by simp), ?_⟩
        refine ⟨_, _, _, (hS9.blk 8 rfl).cell rfl, _, _, _, (hS9.blk 8 rfl).cell rfl, _, _, _, (hS9.blk 8 rfl).cell rfl, _, _, _, (hS9.blk 8 rfl).cell rfl, _, _, _, (hS9.blk 8 rfl).cell rfl, _, _, _, (hS9.blk 8 rfl).cell rfl, ?_⟩
        exact ⟨⟨X0, X1, X2, X3, X4, VM⟩, rfl, h1.gone (tw_fin hG0.u hS9)⟩
  · rintro e w' ⟨r, rfl, u, rfl, h⟩; exact ⟨u, rfl, h⟩
end PG
end Go.Proofs.YtjmlfknogjaemaaDoor
/- Page: a graph in memory of its own (twin), each list owned. The forks' part is printed by gen32.py. -/
set_option linter.unusedVariables false
set_option linter.unusedSimpArgs false
set_option maxRecDepth 10000
namespace Go.Proofs.YtjmlfknogjaemaaDoor
open Go Go.Proofs.YtjmlfknogjaemaaDoor.Vc
namespace PG
open Vc.PG NI
/-- The rows of masks, each a piece of its own. -/
def rowsL (vals : List Sl) (M : List (List Int)) : List Chunk := List.zipWith (fun v r => slU v.v r) vals M
end PG
end Go.Proofs.YtjmlfknogjaemaaDoor

/- Page: a graph lent (lent): lists with room and marks behind. -/
set_option linter.unusedVariables false
set_option linter.unusedSimpArgs false
set_option maxRecDepth 10000
namespace Go.Proofs.YtjmlfknogjaemaaDoor
open Go Go.Proofs.YtjmlfknogjaemaaDoor.Vc
namespace PG
open Vc.PG NI
theorem St.fold {S : List Nat} {w0 w : World} : ∀ (L : List Chunk) (c : Chunk), St S w0 w (c :: L) → St S w0 w [L.foldl Chunk.star c]
  | [], c, h => h
  | d :: L, c, h => St.fold L (Chunk.star c d) h.join
theorem fold_says {w : World} : ∀ (L : List Chunk) (c : Chunk) (F : List Nat), (L.foldl Chunk.star c).holds w F → (∃ G, c.holds w G) ∧ ∀ d ∈ L, ∃ G, d.holds w G
  | [], c, F, h => ⟨⟨F, h⟩, by simp⟩
  | e :: L, c, F, h => by
    obtain ⟨⟨G, F1, F2, rfl, h1, h2, _⟩, h3⟩ := fold_says L (Chunk.star c e) F h
    refine ⟨⟨F1, h1⟩, fun d hd => ?_⟩
    rcases List.mem_cons.1 hd with rfl | hd
    · exact ⟨F2, h2⟩
    · exact h3 d hd
/-- All pieces as one, of which only what it says is kept. -/
theorem St.keepAll {S : List Nat} {w0 w : World} {c : Chunk} {L : List Chunk} (h : St S w0 w (c :: L)) (p : World → Prop) (hp : ∀ w, (∃ G, c.holds w G) → (∀ d ∈ L, ∃ G, d.holds w G) → p w) : St S w0 w [Chunk.keep p] :=
  (St.fold L c h).keep 0 rfl p fun F w hF => by
    obtain ⟨h1, h2⟩ := fold_says L c F hF
    exact hp w h1 h2
end PG
end Go.Proofs.YtjmlfknogjaemaaDoor
/- Page: the marks behind a lent graph stand (stands). -/
set_option linter.unusedVariables false
set_option linter.unusedSimpArgs false
set_option maxRecDepth 10000
namespace Go.Proofs.YtjmlfknogjaemaaDoor
open Go Go.Proofs.YtjmlfknogjaemaaDoor.Vc
namespace PG
open Vc.PG NI
end PG
end Go.Proofs.YtjmlfknogjaemaaDoor
/- Page: laying, beside other pieces of memory. -/
set_option linter.unusedVariables false
set_option linter.unusedSimpArgs false
set_option maxRecDepth 10000
namespace Go.Proofs.YtjmlfknogjaemaaDoor
open Go Go.Proofs.YtjmlfknogjaemaaDoor.Vc
namespace PG
open Vc.PG NI
/-- The program's Lay, of a graph that is a piece of memory. -/
theorem layCs {S : List Nat} {w0 w : World} {K : List Chunk} (h : St S w0 w K) (i j : Nat) (hij : j ≠ i) {x : Nat} {l : List ByteArray} (hi : K[i]? = some (idxC x l)) {p : World → Prop} (hj : K[j]? = some (Chunk.keep p)) {v : GV} {g : Gd} (hG : ∀ w, p w → InG w v g) (hl : l.length ≤ 1048576) (hbig : v.a.2.1 ≤ 1100000 ∧ v.s.2.1 ≤ 1100000 ∧ v.o.2.1 ≤ 1100000) (ver : Int) :
    Calls Tryd.prog 9 #[.int .i64 ver, v.v, .pointer (some ⟨x, 0, none⟩)] w fun e w' => ∃ A n c, e = .returned (.tuple #[.slice A n c, .int .i64 (layP ver g l).2.1]) ∧ St S w0 w' (ints (.slice A n c) (layP ver g l).1 :: K.set i (idxC x (layP ver g l).2.2)) := by
  obtain ⟨F, hF, hd, hgr⟩ := h.graftW i hi
  obtain ⟨G, hG4, hdj⟩ := hd j _ hij hj
  refine Calls.mono (layC (St.start1 hF) (v := v) (g := g) (fun w' hf => hG _ (Chunk.keep_says (Chunk.fr _ hG4 hf hdj))) hl hbig ver) ?_
  rintro _ w' ⟨A, n, c, rfl, hS⟩
  exact ⟨A, n, c, rfl, hgr (hS.swap 0 1 rfl rfl)⟩
end PG
end Go.Proofs.YtjmlfknogjaemaaDoor

/- Page: the law PageLay, the walk. -/
set_option linter.unusedVariables false
set_option linter.unusedSimpArgs false
set_option maxRecDepth 10000
namespace Go.Proofs.YtjmlfknogjaemaaDoor
open Go Go.Proofs.YtjmlfknogjaemaaDoor.Vc
namespace PG
open Vc.PG NI
/-- How large a graph is that is handed in. -/
def SmallG (v : GV) (g : Gd) : Prop := (v.a.2.1 ≤ 1100000 ∧ v.s.2.1 ≤ 1100000 ∧ v.o.2.1 ≤ 1100000 ∧ v.f.2.1 ≤ 1100000 ∧ v.n.2.1 ≤ 1100000 ∧ v.m.2.1 ≤ 1100000) ∧ ∀ r ∈ gM g, r.length ≤ 1100000
theorem SmallG.lens {w : World} {v : GV} {g : Gd} (h : SmallG v g) (hG : InG w v g) : ((gA g).length ≤ 1100000 ∧ (gS g).length ≤ 1100000 ∧ (gO g).length ≤ 1100000 ∧ (gF g).length ≤ 1100000 ∧ (gN g).length ≤ 1100000 ∧ (gM g).length ≤ 1100000) ∧ ∀ r ∈ gM g, r.length ≤ 1100000 := by
  obtain ⟨⟨q1, q2, q3, q4, q5, q6⟩, q7⟩ := h
  have e1 := hG.a.1.1
  have e2 := hG.s.1.1
  have e3 := hG.o.1.1
  have e4 := hG.f.1.1
  have e5 := hG.n.1.1
  have e6 := hG.m.1.1
  exact ⟨⟨by omega, by omega, by omega, by omega, by omega, by omega⟩, q7⟩
theorem SmallG.of {w w' : World} {v u : GV} {g : Gd} (h : SmallG v g) (hG : InG w v g) (hu : InG w' u g) : SmallG u g := by
  obtain ⟨⟨q1, q2, q3, q4, q5, q6⟩, q7⟩ := h.lens hG
  have e1 := hu.a.1.1
  have e2 := hu.s.1.1
  have e3 := hu.o.1.1
  have e4 := hu.f.1.1
  have e5 := hu.n.1.1
  have e6 := hu.m.1.1
  exact ⟨⟨by omega, by omega, by omega, by omega, by omega, by omega⟩, q7⟩
/-- Two readings of one graph are alike. -/
theorem sameOne {w : World} {u v : GV} {g : Gd} (hu : InG w u g) (hv : InG w v g) (hb : SmallG u g) : Calls Tryd.prog 17 #[u.v, v.v] w fun e w' => e = .returned (.bool true) ∧ Fr [] w w' := by
  obtain ⟨⟨q1, q2, q3, q4, q5, q6⟩, q7⟩ := hb
  have h := sameGR hu hv ⟨⟨by omega, by omega, by omega, by omega, by omega, by omega⟩, fun r hr => by have := q7 r hr; omega⟩
  rw [sameG_refl] at h
  exact h
/-- A laid page and the document's are alike. -/
theorem sameInts {S : List Nat} {w0 w : World} {K : List Chunk} (h : St S w0 w K) (i j : Nat) {x y : Sl} {l : List Int} (hi : K[i]? = some (ints x.v l)) (hj : K[j]? = some (ints y.v l)) (hl : l.length ≤ 1000000) :
    Calls Tryd.prog 15 #[x.v, y.v] w fun e w' => e = .returned (.bool true) ∧ St S w0 w' K := by
  have hI := St.inI h i hi
  have := h.step0 (sameC (c := x.2.2) (d := y.2.2) hI (St.inI h j hj) (by rw [hI.1]; omega))
  rw [decide_eq_true rfl] at this
  exact this
end PG
end Go.Proofs.YtjmlfknogjaemaaDoor

/- Page: the law PageTable, the walk. -/
set_option linter.unusedVariables false
set_option linter.unusedSimpArgs false
set_option maxRecDepth 10000
namespace Go.Proofs.YtjmlfknogjaemaaDoor
open Go Go.Proofs.YtjmlfknogjaemaaDoor.Vc
namespace PG
open Vc.PG NI
theorem want_len : ∀ (l ns acc : List ByteArray), (wantGo l ns acc).length ≤ acc.length + ns.length
  | l, [], acc => by simp [wantGo]
  | l, s :: ns, acc => by
    rw [wantGo, List.length_cons]
    split
    · have := want_len l ns (acc ++ [s]); rw [List.length_append, List.length_singleton] at this; omega
    · have := want_len l ns acc; omega
/-- Where there is room a valid graph is laid. -/
theorem lay_ok {v : Int} {g : Gd} {l : List ByteArray} (hv : validP g = true) (h1 : 1 ≤ v) (h2 : v ≤ 2147483647) (hl : l.length ≤ 1000000) : (layP v g l).2.1 = 0 := by
  obtain ⟨⟨p1, p2, p3, _⟩, _⟩ := valid_parts hv
  have hn := names_len g
  have hw := want_len l (names g) []
  rw [List.length_nil] at hw
  unfold layP
  rw [if_neg (by omega), if_neg (by rw [hv]; decide), if_neg (by unfold freshN; omega)]
theorem num_at {l : List ByteArray} (hn : l.Nodup) {i : Nat} (hi : i < l.length) : IX.num l (l.getD i ByteArray.empty) = i + 1 := by
  have hm : l.getD i ByteArray.empty ∈ l := (mem_getD _ _ _).2 ⟨i, hi, rfl⟩
  obtain ⟨g1, g2, g3⟩ := num_get hm
  have hg := g3 ByteArray.empty
  have hp := (nodup_getD ByteArray.empty l).1 hn
  rcases Nat.lt_trichotomy (IX.num l (l.getD i ByteArray.empty) - 1) i with h | h | h
  · exact absurd hg (hp _ _ h hi)
  · omega
  · exact absurd hg.symm (hp _ _ h (by omega))
end PG
end Go.Proofs.YtjmlfknogjaemaaDoor
